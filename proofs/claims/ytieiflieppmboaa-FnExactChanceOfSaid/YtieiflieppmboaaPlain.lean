/- Plain mathematics on whole numbers and lists: what the printed functions are compared with. No program stands in this text. No condition. -/
import Derived.Test.YtieiflieppmboaaWWords
import Derived.Test.YtieiflieppmboaaWMore
import Derived.Test.YtieiflieppmboaaWSized
import Derived.Laws.BitsLemmas
set_option linter.unusedVariables false
set_option linter.unusedSimpArgs false
/- The printed rows name this lemma of the printed words by the shorter name. -/
namespace Go.Proofs.Ytieiflieppmboaa.PrintWords
open Go.ChangeShapes Go.WideShapes
theorem sized_ints {H : Type} {enc : TypeId × Value → H} {P : Program} {W : World} {base : Nat} {spare : Nat → Bool} {held : Bool} {t e : TypeId} {k : IntKind} {a : Option Addr} {len cap : Nat}
    {d : DataW H} {ps : List MemPlace} {ts : List TypeId} {ds : List (DataW H)} {j : Nat} (hsz : (DataW.weightsEach P ts ds).all (· ≤ reachBytes) = true)
    (ht : ts[j]? = some t) (hd : ds[j]? = some d) (hu : P.underlying t = some (.slice e)) (he : P.underlying e = some (.int k)) (hc : P.cellsOf e = 1) {B : Nat} (hB : P.bytesOf e = B)
    (h : DataW.Trod enc P W base spare held t (.slice a len cap) d ps) : len * B ≤ 140737488351232 :=
  Go.Proofs.YtieiflieppmboaaW.PrintWords.sized_ints hsz ht hd hu he hc hB h
end Go.Proofs.Ytieiflieppmboaa.PrintWords
namespace Go.Proofs.Ytieiflieppmboaa.Plain
open Go.RowKit Go.Proofs.YtieiflieppmboaaW.PrintWords Go.Proofs.YtieiflieppmboaaW.PrintLast Go.Proofs.YtieiflieppmboaaW.PrintMore

theorem w64 {x : Int} (h1 : -9223372036854775808 ≤ x) (h2 : x ≤ 9223372036854775807) : wrap64 x = x := by unfold wrap64; omega
theorem w64n (i : Nat) (h : i ≤ 1000000000000) : wrap64 ((i : Int) + 1) = ((i + 1 : Nat) : Int) := by unfold wrap64; omega
theorem ev_pos {α : Type} {c : Prop} [Decidable c] {f g : Nat → Option α} {r : α} (h : c) (e : Ev f r) : Ev (fun k => if c then f k else g k) r :=
  Ev.congr (fun k => if_pos h) e
theorem ev_neg {α : Type} {c : Prop} [Decidable c] {f g : Nat → Option α} {r : α} (h : ¬ c) (e : Ev g r) : Ev (fun k => if c then f k else g k) r :=
  Ev.congr (fun k => if_neg h) e
theorem ev_eq {α : Type} {f : Nat → Option α} {r r' : α} (e : Ev f r') (h : r' = r) : Ev f r := h ▸ e
theorem ev_at {α : Type} {f : Nat → Option α} {r : α} (n : Nat) (h : ∀ k, f (k + n) = some r) : Ev f r :=
  ⟨n, fun k hk => by obtain ⟨m, rfl⟩ : ∃ m, k = m + n := ⟨k - n, by omega⟩; exact h m⟩
theorem rd_nat (l : List Int) (i : Nat) (h : i < l.length) : rd l (i : Int) = l[i] := by simp [rd, h]
theorem drop_rd (l : List Int) (i : Nat) (h : i < l.length) : l.drop i = rd l (i : Int) :: l.drop (i + 1) := by
  rw [rd_nat l i h]; exact List.drop_eq_getElem_cons h
theorem rd_mem (l : List Int) (i : Nat) (h : i < l.length) : rd l (i : Int) ∈ l := by rw [rd_nat l i h]; exact List.getElem_mem h
theorem take_rd (l : List Int) (i : Nat) (h : i < l.length) : l.take (i + 1) = l.take i ++ [rd l (i : Int)] := by
  rw [rd_nat l i h]; exact List.take_succ_eq_append_getElem h

/-! ### urns, words, rows of counts -/
def inB (x lo hi : Int) : Bool := decide (lo ≤ x ∧ x ≤ hi)
def urnE (x : Int) : Bool := decide (0 ≤ x ∧ x ≤ 40)
def colB (c : Int) : Bool := decide (1 ≤ c ∧ c ≤ 3)
def urnB (l : List Int) : Bool := l.all urnE && colB l.length
def startB (l : List Int) : Bool := l.all (fun x => decide (x ≤ 10)) && urnB l
def wordB (c : Int) (l : List Int) : Bool := l.all (fun x => decide (0 ≤ x ∧ x < c)) && (colB c && decide ((l.length : Int) ≤ 6))
def cntL : Int → List Int → Bool
  | _, [] => true
  | n, x :: l => decide (0 ≤ x ∧ x ≤ n) && cntL (n - x) l
def tot : List Int → Int
  | [] => 0
  | x :: l => x + tot l
def cntB (c : Int) (l : List Int) : Bool := cntL 6 l && (colB c && decide ((l.length : Int) = c))
theorem cntL_tot (l : List Int) : ∀ n : Int, cntL n l = true ↔ ((∀ x ∈ l, 0 ≤ x) ∧ (l = [] ∨ tot l ≤ n)) := by
  induction l with
  | nil => intro n; simp [cntL]
  | cons x l ih =>
    intro n
    simp only [cntL, Bool.and_eq_true, decide_eq_true_eq, ih, tot, List.mem_cons, forall_eq_or_imp, reduceCtorEq, false_or]
    constructor
    · rintro ⟨⟨h0, h1⟩, h2, h3⟩
      refine ⟨⟨h0, h2⟩, ?_⟩
      rcases h3 with rfl | h3
      · simp [tot]; exact h1
      · omega
    · rintro ⟨⟨h0, h1⟩, h2⟩
      have h3 : 0 ≤ tot l := by
        clear h2 ih
        induction l with
        | nil => simp [tot]
        | cons y l ihl =>
          have := ihl (fun z hz => h1 z (List.mem_cons_of_mem _ hz)); have := h1 y (List.mem_cons_self)
          simp only [tot]; omega
      exact ⟨⟨h0, by omega⟩, h1, .inr (by omega)⟩
theorem tot_nonneg (l : List Int) (h : ∀ x ∈ l, 0 ≤ x) : 0 ≤ tot l := by
  induction l with
  | nil => simp [tot]
  | cons y l ih =>
    have := ih (fun z hz => h z (List.mem_cons_of_mem _ hz)); have := h y (List.mem_cons_self)
    simp only [tot]; omega
theorem tot_le_of_mem (l : List Int) (h : ∀ x ∈ l, 0 ≤ x) : ∀ x ∈ l, x ≤ tot l := by
  induction l with
  | nil => simp
  | cons y l ih =>
    have h1 := tot_nonneg l (fun z hz => h z (List.mem_cons_of_mem _ hz)); have h2 := h y (List.mem_cons_self)
    intro x hx
    simp only [tot]
    rcases List.mem_cons.1 hx with rfl | hx
    · omega
    · have := ih (fun z hz => h z (List.mem_cons_of_mem _ hz)) x hx; omega
theorem tot_append (a b : List Int) : tot (a ++ b) = tot a + tot b := by
  induction a with
  | nil => simp [tot]
  | cons x a ih => simp only [List.cons_append, tot, ih]; omega
theorem tot_bound (l : List Int) (B : Int) (hB : 0 ≤ B) (h : ∀ x ∈ l, 0 ≤ x ∧ x ≤ B) : 0 ≤ tot l ∧ tot l ≤ l.length * B := by
  induction l with
  | nil => simp [tot]
  | cons x l ih =>
    have h1 := ih (fun y hy => h y (List.mem_cons_of_mem _ hy)); have h2 := h x (List.mem_cons_self)
    have e : ((x :: l).length : Int) * B = l.length * B + B := by rw [List.length_cons, Int.natCast_add, Int.add_mul]; simp
    simp only [tot]; rw [e]; omega
/-- How the reference tells a row of counts. -/
def cntS (c : Int) (l : List Int) : Bool := l.all (fun x => inB x 0 6) && (colB c && (decide ((l.length : Int) = c) && decide (tot l ≤ 6)))
theorem cntS_eq (c : Int) (l : List Int) : cntS c l = cntB c l := by
  rw [Bool.eq_iff_iff]
  simp only [cntS, cntB, inB, Bool.and_eq_true, List.all_eq_true, decide_eq_true_eq, cntL_tot]
  constructor
  · rintro ⟨h1, h2, h3, h4⟩; exact ⟨⟨fun x hx => (h1 x hx).1, .inr h4⟩, h2, h3⟩
  · rintro ⟨⟨h1, h2⟩, h3, h4⟩
    have h5 : tot l ≤ 6 := by
      rcases h2 with rfl | h2
      · simp [tot]
      · exact h2
    exact ⟨fun x hx => ⟨h1 x hx, Int.le_trans (tot_le_of_mem l h1 x hx) h5⟩, h3, h4, h5⟩
theorem urnB_bounds {l : List Int} (h : urnB l = true) : (∀ x ∈ l, 0 ≤ x ∧ x ≤ 40) ∧ 1 ≤ l.length ∧ l.length ≤ 3 := by
  simp only [urnB, urnE, colB, Bool.and_eq_true, List.all_eq_true, decide_eq_true_eq] at h
  exact ⟨h.1, by omega, by omega⟩
theorem len13 {l : List Int} (h1 : 1 ≤ l.length) (h2 : l.length ≤ 3) : (∃ a, l = [a]) ∨ (∃ a b, l = [a, b]) ∨ ∃ a b c, l = [a, b, c] := by
  match l, h1, h2 with
  | [a], _, _ => exact .inl ⟨a, rfl⟩
  | [a, b], _, _ => exact .inr (.inl ⟨a, b, rfl⟩)
  | [a, b, c], _, _ => exact .inr (.inr ⟨a, b, c, rfl⟩)
  | _ :: _ :: _ :: _ :: _, _, h => simp at h
theorem urn_cases {l : List Int} (h : urnB l = true) : (∃ a, l = [a] ∧ 0 ≤ a ∧ a ≤ 40) ∨ (∃ a b, l = [a, b] ∧ 0 ≤ a ∧ a ≤ 40 ∧ 0 ≤ b ∧ b ≤ 40) ∨ ∃ a b c, l = [a, b, c] ∧ 0 ≤ a ∧ a ≤ 40 ∧ 0 ≤ b ∧ b ≤ 40 ∧ 0 ≤ c ∧ c ≤ 40 := by
  obtain ⟨h1, h2, h3⟩ := urnB_bounds h
  rcases len13 h2 h3 with ⟨a, rfl⟩ | ⟨a, b, rfl⟩ | ⟨a, b, c, rfl⟩ <;> simp at h1
  · exact .inl ⟨a, rfl, h1⟩
  · exact .inr (.inl ⟨a, b, rfl, h1.1.1, h1.1.2, h1.2⟩)
  · exact .inr (.inr ⟨a, b, c, rfl, h1.1.1, h1.1.2, h1.2.1.1, h1.2.1.2, h1.2.2⟩)
theorem mulb {a b A B : Int} (h0 : 0 ≤ a) (h1 : a ≤ A) (h2 : 0 ≤ b) (h3 : b ≤ B) : 0 ≤ a * b ∧ a * b ≤ A * B :=
  ⟨Int.mul_nonneg h0 h2, Int.mul_le_mul h1 h3 h2 (by omega)⟩
def sumF (f : Int → Int) : List Int → Int
  | [] => 0
  | x :: l => f x + sumF f l
theorem sumF_append (f : Int → Int) (a b : List Int) : sumF f (a ++ b) = sumF f a + sumF f b := by
  induction a with
  | nil => simp [sumF]
  | cons x a ih => simp only [List.cons_append, sumF, ih]; omega
theorem sumF_bound (f : Int → Int) (B : Int) (hB : 0 ≤ B) (l : List Int) (h : ∀ x ∈ l, 0 ≤ f x ∧ f x ≤ B) : 0 ≤ sumF f l ∧ sumF f l ≤ l.length * B := by
  induction l with
  | nil => simp [sumF]
  | cons x l ih =>
    have h1 := ih (fun y hy => h y (List.mem_cons_of_mem _ hy)); have h2 := h x (List.mem_cons_self)
    have e : ((x :: l).length : Int) * B = l.length * B + B := by rw [List.length_cons, Int.natCast_add, Int.add_mul]; simp
    simp only [sumF]; rw [e]; omega
theorem sumF_congr {f g : Int → Int} {l : List Int} (h : ∀ x ∈ l, f x = g x) : sumF f l = sumF g l := by
  induction l with
  | nil => rfl
  | cons x l ih => simp only [sumF]; rw [h x List.mem_cons_self, ih (fun y hy => h y (List.mem_cons_of_mem _ hy))]
theorem tot_sumF (l : List Int) : tot l = sumF (fun x => x) l := by
  induction l with
  | nil => rfl
  | cons x l ih => simp only [tot, sumF, ih]
theorem mx_l (a b : Int) (h : b ≤ a) : mx a b = a := by unfold mx; rw [if_neg (by omega)]
theorem mx_r (a b : Int) (h : a ≤ b) : mx a b = b := by unfold mx; split <;> omega
theorem mx_comm (a b : Int) : mx a b = mx b a := by unfold mx; split <;> split <;> omega
theorem mx_bound (a B : Int) (h : a ≤ B) (hB : 0 ≤ B) : 0 ≤ mx a 0 ∧ mx a 0 ≤ B := by unfold mx; split <;> omega
/-- Rising products. -/
def rising (s st : Int) : Nat → Int
  | 0 => 1
  | n + 1 => rising s st n * mx (s + n * st) 0
theorem rising_bound (s st : Int) (hs : 0 ≤ s) (hs2 : s ≤ 120) (h1 : -1 ≤ st) (h2 : st ≤ 3) : ∀ n, n ≤ 6 → 0 ≤ rising s st n ∧ rising s st n ≤ 140 ^ n := by
  intro n
  induction n with
  | zero => intro _; simp [rising]
  | succ n ih =>
    intro hn
    obtain ⟨ha, hb⟩ := ih (by omega)
    have hc : s + n * st ≤ 140 := by
      have h5 : (n : Int) * st ≤ (n : Int) * 3 := Int.mul_le_mul_of_nonneg_left h2 (by omega)
      omega
    obtain ⟨hm1, hm2⟩ := mx_bound (s + n * st) 140 hc (by omega)
    simp only [rising]
    have := mulb ha hb hm1 hm2
    rw [Int.pow_succ]
    exact this
theorem pow_bound (b B : Int) (h0 : 0 ≤ b) (h1 : b ≤ B) (n : Nat) : 0 ≤ b ^ n ∧ b ^ n ≤ B ^ n := by
  induction n with
  | zero => simp
  | succ n ih => rw [Int.pow_succ, Int.pow_succ]; exact mulb ih.1 ih.2 h0 h1
theorem pow6 (n : Nat) (h : n ≤ 6) : (140 : Int) ^ n ≤ 7529536000000 := by
  have : n = 0 ∨ n = 1 ∨ n = 2 ∨ n = 3 ∨ n = 4 ∨ n = 5 ∨ n = 6 := by omega
  rcases this with rfl | rfl | rfl | rfl | rfl | rfl | rfl <;> decide
theorem rising_step (s st : Int) (hs : 0 ≤ s) (hs2 : s ≤ 120) (h1 : -1 ≤ st) (h2 : st ≤ 3) (i : Nat) (hi : i < 6) :
    wrap64 ((i : Int) * st) = i * st ∧ wrap64 (s + i * st) = s + i * st ∧ wrap64 (rising s st i * mx (s + i * st) 0) = rising s st (i + 1) := by
  have h3 : (i : Int) * st ≤ (i : Int) * 3 := Int.mul_le_mul_of_nonneg_left h2 (by omega)
  have h4 : (i : Int) * (-1) ≤ (i : Int) * st := Int.mul_le_mul_of_nonneg_left h1 (by omega)
  obtain ⟨ha, hb⟩ := rising_bound s st hs hs2 h1 h2 (i + 1) (by omega)
  have h5 := pow6 (i + 1) (by omega)
  refine ⟨w64 (by omega) (by omega), w64 (by omega) (by omega), ?_⟩
  show wrap64 (rising s st (i + 1)) = _
  exact w64 (by omega) (by omega)
theorem pow_step (b : Int) (h0 : 0 ≤ b) (h1 : b ≤ 140) (i : Nat) (hi : i < 6) : wrap64 (b ^ i * b) = b ^ (i + 1) := by
  obtain ⟨ha, hb⟩ := pow_bound b 140 h0 h1 (i + 1)
  have h5 := pow6 (i + 1) (by omega)
  have e : b ^ i * b = b ^ (i + 1) := (Int.pow_succ b i).symm
  rw [e]
  exact w64 (by omega) (by omega)
/-- The product of f over a list. -/
def prodF (f : Int → Int) : List Int → Int
  | [] => 1
  | x :: l => f x * prodF f l
theorem prodF_append (f : Int → Int) (a b : List Int) : prodF f (a ++ b) = prodF f a * prodF f b := by
  induction a with
  | nil => simp [prodF]
  | cons x a ih => simp only [List.cons_append, prodF, ih, Int.mul_assoc]
theorem prodF_bound (f : Int → Int) (B : Int) (hB : 0 ≤ B) (l : List Int) (h : ∀ x ∈ l, 0 ≤ f x ∧ f x ≤ B) : 0 ≤ prodF f l ∧ prodF f l ≤ B ^ l.length := by
  induction l with
  | nil => simp [prodF]
  | cons x l ih =>
    have h1 := ih (fun y hy => h y (List.mem_cons_of_mem _ hy)); have h2 := h x (List.mem_cons_self)
    simp only [prodF, List.length_cons]
    rw [Int.pow_succ, Int.mul_comm (B ^ l.length)]
    exact mulb h2.1 h2.2 h1.1 h1.2
theorem prodF_bound' (f : Int → Int) (B : Int) (hB : 0 ≤ B) (hB2 : B ≤ 140) (l : List Int) (hl : l.length ≤ 6) (h : ∀ x ∈ l, 0 ≤ f x ∧ f x ≤ B) : 0 ≤ prodF f l ∧ prodF f l ≤ 7529536000000 := by
  obtain ⟨h1, h2⟩ := prodF_bound f B hB l h
  exact ⟨h1, Int.le_trans h2 (Int.le_trans (pow_bound B 140 hB hB2 _).2 (pow6 _ hl))⟩
theorem rd_range (l : List Int) (c : Int) (h0 : 0 ≤ c) (h1 : c < l.length) : rd l c ∈ l := by
  obtain ⟨n, rfl⟩ := Int.eq_ofNat_of_zero_le h0
  exact rd_mem l n (by omega)
theorem wordB_bounds {c : Int} {l : List Int} (h : wordB c l = true) : (∀ x ∈ l, 0 ≤ x ∧ x < c) ∧ 1 ≤ c ∧ c ≤ 3 ∧ l.length ≤ 6 := by
  simp only [wordB, colB, Bool.and_eq_true, List.all_eq_true, decide_eq_true_eq] at h
  exact ⟨h.1, by omega, by omega, by omega⟩
/-- The counts of a word, one draw after the other. -/
def cstep (l : List Int) (w : Int) : List Int := l.set w.toNat (rd l w + 1)
def cntsOf (c : Nat) (word : List Int) : List Int := word.foldl cstep (List.replicate c 0)
theorem cstep_length (l : List Int) (w : Int) : (cstep l w).length = l.length := by simp [cstep]
theorem foldl_cstep_length (ws : List Int) : ∀ l : List Int, (ws.foldl cstep l).length = l.length := by
  induction ws with
  | nil => intro l; rfl
  | cons w ws ih => intro l; rw [List.foldl_cons, ih, cstep_length]
theorem cstep_bound (l : List Int) (w B : Int) (hB : 0 ≤ B) (h : ∀ x ∈ l, 0 ≤ x ∧ x ≤ B) : ∀ x ∈ cstep l w, 0 ≤ x ∧ x ≤ B + 1 := by
  intro x hx
  rcases List.mem_or_eq_of_mem_set hx with hx | rfl
  · have := h x hx; omega
  · have : rd l w = 0 ∨ rd l w ∈ l := by
      unfold rd
      by_cases hh : w.toNat < l.length
      · right; simp [hh]
      · left; simp [List.getD_eq_getElem?_getD, List.getElem?_eq_none (show l.length ≤ w.toNat by omega)]
    rcases this with h1 | h1
    · omega
    · have := h _ h1; omega
theorem foldl_cstep_bound (ws : List Int) : ∀ (l : List Int) (B : Int), 0 ≤ B → (∀ x ∈ l, 0 ≤ x ∧ x ≤ B) → ∀ x ∈ ws.foldl cstep l, 0 ≤ x ∧ x ≤ B + ws.length := by
  induction ws with
  | nil => intro l B hB h x hx; have := h x hx; simp; omega
  | cons w ws ih =>
    intro l B hB h x hx
    have := ih (cstep l w) (B + 1) (by omega) (cstep_bound l w B hB h) x hx
    rw [List.length_cons]; omega
theorem cntsOf_bound (c : Nat) (ws : List Int) : ∀ x ∈ cntsOf c ws, 0 ≤ x ∧ x ≤ ws.length := by
  intro x hx
  have := foldl_cstep_bound ws (List.replicate c 0) 0 (by omega) (fun y hy => by have := List.eq_of_mem_replicate hy; omega) x hx
  omega
theorem cntsOf_length (c : Nat) (ws : List Int) : (cntsOf c ws).length = c := by unfold cntsOf; rw [foldl_cstep_length, List.length_replicate]
/-- What is laid over a list that is marked. -/
def iota (k : Int) : Nat → List Int
  | 0 => []
  | n + 1 => k :: iota (k + 1) n
theorem iota_length (k : Int) (n : Nat) : (iota k n).length = n := by
  induction n generalizing k with
  | zero => rfl
  | succ n ih => simp [iota, ih]
theorem iota_snoc (k : Int) (n : Nat) : iota k (n + 1) = iota k n ++ [k + n] := by
  induction n generalizing k with
  | zero => simp [iota]
  | succ n ih => rw [iota, ih (k + 1)]; simp [iota]; omega
theorem iota_rd (n : Nat) : ∀ (k : Int) (i : Nat), i < n → rd (iota k n) (i : Int) = k + i := by
  induction n with
  | zero => intro k i hi; omega
  | succ n ih =>
    intro k i hi
    cases i with
    | zero => simp [iota, rd]
    | succ i =>
      have := ih (k + 1) i (by omega)
      simp only [rd, Int.toNat_natCast] at this ⊢
      simp only [iota, List.getD_cons_succ]
      rw [this]; omega
theorem bits_xor_small (a b : Nat) (ha : a < 1152921504606846976) (hb : b < 1152921504606846976) : Go.bits .xor .i64 (a : Int) (b : Int) = ((a ^^^ b : Nat) : Int) := by
  have hx : a ^^^ b < 2 ^ 60 := Nat.xor_lt_two_pow (by omega) (by omega)
  have h1 : (BitVec.ofInt 64 (a : Int)).toNat = a := by
    rw [BitVec.ofInt_natCast, BitVec.toNat_ofNat]; exact Nat.mod_eq_of_lt (by omega)
  have h2 : (BitVec.ofInt 64 (b : Int)).toNat = b := by
    rw [BitVec.ofInt_natCast, BitVec.toNat_ofNat]; exact Nat.mod_eq_of_lt (by omega)
  show IntKind.i64.wrap ((BitVec.ofInt 64 (a : Int) ^^^ BitVec.ofInt 64 (b : Int)).toNat : Int) = _
  rw [BitVec.toNat_xor, h1, h2, IntKind.wrap_i64]
  omega
theorem xor_nonneg (a b : Int) (ha : 0 ≤ a) (ha2 : a < 1000000000000) (hb : 0 ≤ b) (hb2 : b < 1000000000000) : 0 ≤ Go.bits .xor .i64 a b := by
  obtain ⟨m, rfl⟩ := Int.eq_ofNat_of_zero_le ha
  obtain ⟨n, rfl⟩ := Int.eq_ofNat_of_zero_le hb
  rw [bits_xor_small m n (by omega) (by omega)]
  omega
theorem tmod_range (x n : Int) (h : 0 ≤ x) (hn : 0 < n) : 0 ≤ Int.tmod x n ∧ Int.tmod x n < n := by
  rw [Int.tmod_eq_emod_of_nonneg h]
  exact ⟨Int.emod_nonneg _ (by omega), Int.emod_lt_of_pos _ hn⟩
theorem tdiv_range (x n : Int) (h : 0 ≤ x) (hn : 0 < n) : 0 ≤ Int.tdiv x n ∧ Int.tdiv x n ≤ x := by
  rw [Int.tdiv_eq_ediv_of_nonneg h]
  exact ⟨Int.ediv_nonneg h (by omega), Int.ediv_le_self _ h⟩
/-- The chance of a colour. -/
def chanceP (l : List Int) (c : Int) : Int × Int × Bool :=
  if urnB l = true ∧ 0 ≤ c ∧ c < l.length ∧ 0 < tot l then (rd l c / (Nat.gcd (rd l c).toNat (tot l).toNat : Int), tot l / (Nat.gcd (rd l c).toNat (tot l).toNat : Int), true) else (0, 0, false)
/-- What a code is, once opened. -/
def OkB (b : List Int) : Prop := (∀ x ∈ b, 0 ≤ x ∧ x ≤ 255) ∧ b.length ≤ 2000
theorem u8_wf {x : Int} (h : (Lit.int .u8 x).wf = true) : 0 ≤ x ∧ x ≤ 255 := by
  have h2 : IntKind.min .u8 ≤ x ∧ x ≤ IntKind.max .u8 := by simpa [Lit.wf] using h
  have e1 : IntKind.min .u8 = 0 := by decide
  have e2 : IntKind.max .u8 = 255 := by decide
  omega
end Go.Proofs.Ytieiflieppmboaa.Plain
