/- Plain mathematics on whole numbers and lists: what the printed functions are compared with. No program stands in this text. No condition. -/
import Derived.Test.YtlakokejoifamaaWWords
import Derived.Test.YtlakokejoifamaaWMore
import Derived.Test.YtlakokejoifamaaWSized
import Derived.Laws.BitsLemmas
set_option linter.unusedVariables false
set_option linter.unusedSimpArgs false
/- The printed rows name this lemma of the printed words by the shorter name. -/
namespace Go.Proofs.Ytlakokejoifamaa.PrintWords
open Go.ChangeShapes Go.WideShapes
theorem sized_ints {H : Type} {enc : TypeId × Value → H} {P : Program} {W : World} {base : Nat} {spare : Nat → Bool} {held : Bool} {t e : TypeId} {k : IntKind} {a : Option Addr} {len cap : Nat}
    {d : DataW H} {ps : List MemPlace} {ts : List TypeId} {ds : List (DataW H)} {j : Nat} (hsz : (DataW.weightsEach P ts ds).all (· ≤ reachBytes) = true)
    (ht : ts[j]? = some t) (hd : ds[j]? = some d) (hu : P.underlying t = some (.slice e)) (he : P.underlying e = some (.int k)) (hc : P.cellsOf e = 1) {B : Nat} (hB : P.bytesOf e = B)
    (h : DataW.Trod enc P W base spare held t (.slice a len cap) d ps) : len * B ≤ 140737488351232 :=
  Go.Proofs.YtlakokejoifamaaW.PrintWords.sized_ints hsz ht hd hu he hc hB h
end Go.Proofs.Ytlakokejoifamaa.PrintWords
namespace Go.Proofs.Ytlakokejoifamaa.Plain
open Go.RowKit Go.Proofs.YtlakokejoifamaaW.PrintWords Go.Proofs.YtlakokejoifamaaW.PrintLast Go.Proofs.YtlakokejoifamaaW.PrintMore

theorem w64 {x : Int} (h1 : -9223372036854775808 ≤ x) (h2 : x ≤ 9223372036854775807) : wrap64 x = x := by unfold wrap64; omega
theorem w64n (i : Nat) (h : i ≤ 1000000000000) : wrap64 ((i : Int) + 1) = ((i + 1 : Nat) : Int) := by unfold wrap64; omega
theorem ev_pos {α : Type} {c : Prop} [Decidable c] {f g : Nat → Option α} {r : α} (h : c) (e : Ev f r) : Ev (fun k => if c then f k else g k) r :=
  Ev.congr (fun k => if_pos h) e
theorem ev_neg {α : Type} {c : Prop} [Decidable c] {f g : Nat → Option α} {r : α} (h : ¬ c) (e : Ev g r) : Ev (fun k => if c then f k else g k) r :=
  Ev.congr (fun k => if_neg h) e
theorem ev_eq {α : Type} {f : Nat → Option α} {r r' : α} (e : Ev f r') (h : r' = r) : Ev f r := h ▸ e
theorem ev_at {α : Type} {f : Nat → Option α} {r : α} (n : Nat) (h : ∀ k, f (k + n) = some r) : Ev f r :=
  ⟨n, fun k hk => by obtain ⟨m, rfl⟩ : ∃ m, k = m + n := ⟨k - n, by omega⟩; exact h m⟩
theorem rd_nat (l : List Int) (i : Nat) (h : i < l.length) : rd l (i : Int) = l[i] := by simp [rd, h]
theorem drop_rd (l : List Int) (i : Nat) (h : i < l.length) : l.drop i = rd l (i : Int) :: l.drop (i + 1) := by
  rw [rd_nat l i h]; exact List.drop_eq_getElem_cons h
theorem rd_mem (l : List Int) (i : Nat) (h : i < l.length) : rd l (i : Int) ∈ l := by rw [rd_nat l i h]; exact List.getElem_mem h
theorem take_rd (l : List Int) (i : Nat) (h : i < l.length) : l.take (i + 1) = l.take i ++ [rd l (i : Int)] := by
  rw [rd_nat l i h]; exact List.take_succ_eq_append_getElem h

/-! ### urns, words, rows of counts -/
def inB (x lo hi : Int) : Bool := decide (lo ≤ x ∧ x ≤ hi)
def urnE (x : Int) : Bool := decide (0 ≤ x ∧ x ≤ 40)
def colB (c : Int) : Bool := decide (1 ≤ c ∧ c ≤ 3)
def urnB (l : List Int) : Bool := l.all urnE && colB l.length
def startB (l : List Int) : Bool := l.all (fun x => decide (x ≤ 10)) && urnB l
def wordB (c : Int) (l : List Int) : Bool := l.all (fun x => decide (0 ≤ x ∧ x < c)) && (colB c && decide ((l.length : Int) ≤ 6))
def cntL : Int → List Int → Bool
  | _, [] => true
  | n, x :: l => decide (0 ≤ x ∧ x ≤ n) && cntL (n - x) l
def tot : List Int → Int
  | [] => 0
  | x :: l => x + tot l
def cntB (c : Int) (l : List Int) : Bool := cntL 6 l && (colB c && decide ((l.length : Int) = c))
theorem cntL_tot (l : List Int) : ∀ n : Int, cntL n l = true ↔ ((∀ x ∈ l, 0 ≤ x) ∧ (l = [] ∨ tot l ≤ n)) := by
  induction l with
  | nil => intro n; simp [cntL]
  | cons x l ih =>
    intro n
    simp only [cntL, Bool.and_eq_true, decide_eq_true_eq, ih, tot, List.mem_cons, forall_eq_or_imp, reduceCtorEq, false_or]
    constructor
    · rintro ⟨⟨h0, h1⟩, h2, h3⟩
      refine ⟨⟨h0, h2⟩, ?_⟩
      rcases h3 with rfl | h3
      · simp [tot]; exact h1
      · omega
    · rintro ⟨⟨h0, h1⟩, h2⟩
      have h3 : 0 ≤ tot l := by
        clear h2 ih
        induction l with
        | nil => simp [tot]
        | cons y l ihl =>
          have := ihl (fun z hz => h1 z (List.mem_cons_of_mem _ hz)); have := h1 y (List.mem_cons_self)
          simp only [tot]; omega
      exact ⟨⟨h0, by omega⟩, h1, .inr (by omega)⟩
theorem tot_nonneg (l : List Int) (h : ∀ x ∈ l, 0 ≤ x) : 0 ≤ tot l := by
  induction l with
  | nil => simp [tot]
  | cons y l ih =>
    have := ih (fun z hz => h z (List.mem_cons_of_mem _ hz)); have := h y (List.mem_cons_self)
    simp only [tot]; omega
theorem tot_le_of_mem (l : List Int) (h : ∀ x ∈ l, 0 ≤ x) : ∀ x ∈ l, x ≤ tot l := by
  induction l with
  | nil => simp
  | cons y l ih =>
    have h1 := tot_nonneg l (fun z hz => h z (List.mem_cons_of_mem _ hz)); have h2 := h y (List.mem_cons_self)
    intro x hx
    simp only [tot]
    rcases List.mem_cons.1 hx with rfl | hx
    · omega
    · have := ih (fun z hz => h z (List.mem_cons_of_mem _ hz)) x hx; omega
theorem tot_abs (l : List Int) (B : Int) (hB : 0 ≤ B) (h : ∀ x ∈ l, -B ≤ x ∧ x ≤ B) : -(l.length * B) ≤ tot l ∧ tot l ≤ l.length * B := by
  induction l with
  | nil => simp [tot]
  | cons x l ih =>
    have h1 := ih (fun y hy => h y (List.mem_cons_of_mem _ hy)); have h2 := h x (List.mem_cons_self)
    have e : ((x :: l).length : Int) * B = l.length * B + B := by rw [List.length_cons, Int.natCast_add, Int.add_mul]; simp
    simp only [tot]; rw [e]; omega
theorem tot_append (a b : List Int) : tot (a ++ b) = tot a + tot b := by
  induction a with
  | nil => simp [tot]
  | cons x a ih => simp only [List.cons_append, tot, ih]; omega
theorem tot_bound (l : List Int) (B : Int) (hB : 0 ≤ B) (h : ∀ x ∈ l, 0 ≤ x ∧ x ≤ B) : 0 ≤ tot l ∧ tot l ≤ l.length * B := by
  induction l with
  | nil => simp [tot]
  | cons x l ih =>
    have h1 := ih (fun y hy => h y (List.mem_cons_of_mem _ hy)); have h2 := h x (List.mem_cons_self)
    have e : ((x :: l).length : Int) * B = l.length * B + B := by rw [List.length_cons, Int.natCast_add, Int.add_mul]; simp
    simp only [tot]; rw [e]; omega
theorem tot_reverse (l : List Int) : tot l.reverse = tot l := by
  induction l with
  | nil => rfl
  | cons x l ih => rw [List.reverse_cons, tot_append, ih]; simp only [tot]; omega
/-- How the reference tells a row of counts. -/
def cntS (c : Int) (l : List Int) : Bool := l.all (fun x => inB x 0 6) && (colB c && (decide ((l.length : Int) = c) && decide (tot l ≤ 6)))
theorem cntS_eq (c : Int) (l : List Int) : cntS c l = cntB c l := by
  rw [Bool.eq_iff_iff]
  simp only [cntS, cntB, inB, Bool.and_eq_true, List.all_eq_true, decide_eq_true_eq, cntL_tot]
  constructor
  · rintro ⟨h1, h2, h3, h4⟩; exact ⟨⟨fun x hx => (h1 x hx).1, .inr h4⟩, h2, h3⟩
  · rintro ⟨⟨h1, h2⟩, h3, h4⟩
    have h5 : tot l ≤ 6 := by
      rcases h2 with rfl | h2
      · simp [tot]
      · exact h2
    exact ⟨fun x hx => ⟨h1 x hx, Int.le_trans (tot_le_of_mem l h1 x hx) h5⟩, h3, h4, h5⟩
theorem urnB_bounds {l : List Int} (h : urnB l = true) : (∀ x ∈ l, 0 ≤ x ∧ x ≤ 40) ∧ 1 ≤ l.length ∧ l.length ≤ 3 := by
  simp only [urnB, urnE, colB, Bool.and_eq_true, List.all_eq_true, decide_eq_true_eq] at h
  exact ⟨h.1, by omega, by omega⟩
theorem len13 {l : List Int} (h1 : 1 ≤ l.length) (h2 : l.length ≤ 3) : (∃ a, l = [a]) ∨ (∃ a b, l = [a, b]) ∨ ∃ a b c, l = [a, b, c] := by
  match l, h1, h2 with
  | [a], _, _ => exact .inl ⟨a, rfl⟩
  | [a, b], _, _ => exact .inr (.inl ⟨a, b, rfl⟩)
  | [a, b, c], _, _ => exact .inr (.inr ⟨a, b, c, rfl⟩)
  | _ :: _ :: _ :: _ :: _, _, h => simp at h
theorem urn_cases {l : List Int} (h : urnB l = true) : (∃ a, l = [a] ∧ 0 ≤ a ∧ a ≤ 40) ∨ (∃ a b, l = [a, b] ∧ 0 ≤ a ∧ a ≤ 40 ∧ 0 ≤ b ∧ b ≤ 40) ∨ ∃ a b c, l = [a, b, c] ∧ 0 ≤ a ∧ a ≤ 40 ∧ 0 ≤ b ∧ b ≤ 40 ∧ 0 ≤ c ∧ c ≤ 40 := by
  obtain ⟨h1, h2, h3⟩ := urnB_bounds h
  rcases len13 h2 h3 with ⟨a, rfl⟩ | ⟨a, b, rfl⟩ | ⟨a, b, c, rfl⟩ <;> simp at h1
  · exact .inl ⟨a, rfl, h1⟩
  · exact .inr (.inl ⟨a, b, rfl, h1.1.1, h1.1.2, h1.2⟩)
  · exact .inr (.inr ⟨a, b, c, rfl, h1.1.1, h1.1.2, h1.2.1.1, h1.2.1.2, h1.2.2⟩)
theorem mulb {a b A B : Int} (h0 : 0 ≤ a) (h1 : a ≤ A) (h2 : 0 ≤ b) (h3 : b ≤ B) : 0 ≤ a * b ∧ a * b ≤ A * B :=
  ⟨Int.mul_nonneg h0 h2, Int.mul_le_mul h1 h3 h2 (by omega)⟩
def sumF (f : Int → Int) : List Int → Int
  | [] => 0
  | x :: l => f x + sumF f l
theorem sumF_append (f : Int → Int) (a b : List Int) : sumF f (a ++ b) = sumF f a + sumF f b := by
  induction a with
  | nil => simp [sumF]
  | cons x a ih => simp only [List.cons_append, sumF, ih]; omega
theorem sumF_bound (f : Int → Int) (B : Int) (hB : 0 ≤ B) (l : List Int) (h : ∀ x ∈ l, 0 ≤ f x ∧ f x ≤ B) : 0 ≤ sumF f l ∧ sumF f l ≤ l.length * B := by
  induction l with
  | nil => simp [sumF]
  | cons x l ih =>
    have h1 := ih (fun y hy => h y (List.mem_cons_of_mem _ hy)); have h2 := h x (List.mem_cons_self)
    have e : ((x :: l).length : Int) * B = l.length * B + B := by rw [List.length_cons, Int.natCast_add, Int.add_mul]; simp
    simp only [sumF]; rw [e]; omega
theorem sumF_congr {f g : Int → Int} {l : List Int} (h : ∀ x ∈ l, f x = g x) : sumF f l = sumF g l := by
  induction l with
  | nil => rfl
  | cons x l ih => simp only [sumF]; rw [h x List.mem_cons_self, ih (fun y hy => h y (List.mem_cons_of_mem _ hy))]
theorem tot_sumF (l : List Int) : tot l = sumF (fun x => x) l := by
  induction l with
  | nil => rfl
  | cons x l ih => simp only [tot, sumF, ih]
theorem mx_l (a b : Int) (h : b ≤ a) : mx a b = a := by unfold mx; rw [if_neg (by omega)]
theorem mx_r (a b : Int) (h : a ≤ b) : mx a b = b := by unfold mx; split <;> omega
theorem mx_comm (a b : Int) : mx a b = mx b a := by unfold mx; split <;> split <;> omega
theorem mx_bound (a B : Int) (h : a ≤ B) (hB : 0 ≤ B) : 0 ≤ mx a 0 ∧ mx a 0 ≤ B := by unfold mx; split <;> omega
/-- Rising products. -/
def rising (s st : Int) : Nat → Int
  | 0 => 1
  | n + 1 => rising s st n * mx (s + n * st) 0
theorem rising_bound (s st : Int) (hs : 0 ≤ s) (hs2 : s ≤ 120) (h1 : -1 ≤ st) (h2 : st ≤ 3) : ∀ n, n ≤ 6 → 0 ≤ rising s st n ∧ rising s st n ≤ 140 ^ n := by
  intro n
  induction n with
  | zero => intro _; simp [rising]
  | succ n ih =>
    intro hn
    obtain ⟨ha, hb⟩ := ih (by omega)
    have hc : s + n * st ≤ 140 := by
      have h5 : (n : Int) * st ≤ (n : Int) * 3 := Int.mul_le_mul_of_nonneg_left h2 (by omega)
      omega
    obtain ⟨hm1, hm2⟩ := mx_bound (s + n * st) 140 hc (by omega)
    simp only [rising]
    have := mulb ha hb hm1 hm2
    rw [Int.pow_succ]
    exact this
theorem pow_bound (b B : Int) (h0 : 0 ≤ b) (h1 : b ≤ B) (n : Nat) : 0 ≤ b ^ n ∧ b ^ n ≤ B ^ n := by
  induction n with
  | zero => simp
  | succ n ih => rw [Int.pow_succ, Int.pow_succ]; exact mulb ih.1 ih.2 h0 h1
theorem pow6 (n : Nat) (h : n ≤ 6) : (140 : Int) ^ n ≤ 7529536000000 := by
  have : n = 0 ∨ n = 1 ∨ n = 2 ∨ n = 3 ∨ n = 4 ∨ n = 5 ∨ n = 6 := by omega
  rcases this with rfl | rfl | rfl | rfl | rfl | rfl | rfl <;> decide
theorem rising_step (s st : Int) (hs : 0 ≤ s) (hs2 : s ≤ 120) (h1 : -1 ≤ st) (h2 : st ≤ 3) (i : Nat) (hi : i < 6) :
    wrap64 ((i : Int) * st) = i * st ∧ wrap64 (s + i * st) = s + i * st ∧ wrap64 (rising s st i * mx (s + i * st) 0) = rising s st (i + 1) := by
  have h3 : (i : Int) * st ≤ (i : Int) * 3 := Int.mul_le_mul_of_nonneg_left h2 (by omega)
  have h4 : (i : Int) * (-1) ≤ (i : Int) * st := Int.mul_le_mul_of_nonneg_left h1 (by omega)
  obtain ⟨ha, hb⟩ := rising_bound s st hs hs2 h1 h2 (i + 1) (by omega)
  have h5 := pow6 (i + 1) (by omega)
  refine ⟨w64 (by omega) (by omega), w64 (by omega) (by omega), ?_⟩
  show wrap64 (rising s st (i + 1)) = _
  exact w64 (by omega) (by omega)
theorem pow_step (b : Int) (h0 : 0 ≤ b) (h1 : b ≤ 140) (i : Nat) (hi : i < 6) : wrap64 (b ^ i * b) = b ^ (i + 1) := by
  obtain ⟨ha, hb⟩ := pow_bound b 140 h0 h1 (i + 1)
  have h5 := pow6 (i + 1) (by omega)
  have e : b ^ i * b = b ^ (i + 1) := (Int.pow_succ b i).symm
  rw [e]
  exact w64 (by omega) (by omega)
/-- The product of f over a list. -/
def prodF (f : Int → Int) : List Int → Int
  | [] => 1
  | x :: l => f x * prodF f l
theorem prodF_append (f : Int → Int) (a b : List Int) : prodF f (a ++ b) = prodF f a * prodF f b := by
  induction a with
  | nil => simp [prodF]
  | cons x a ih => simp only [List.cons_append, prodF, ih, Int.mul_assoc]
theorem prodF_bound (f : Int → Int) (B : Int) (hB : 0 ≤ B) (l : List Int) (h : ∀ x ∈ l, 0 ≤ f x ∧ f x ≤ B) : 0 ≤ prodF f l ∧ prodF f l ≤ B ^ l.length := by
  induction l with
  | nil => simp [prodF]
  | cons x l ih =>
    have h1 := ih (fun y hy => h y (List.mem_cons_of_mem _ hy)); have h2 := h x (List.mem_cons_self)
    simp only [prodF, List.length_cons]
    rw [Int.pow_succ, Int.mul_comm (B ^ l.length)]
    exact mulb h2.1 h2.2 h1.1 h1.2
theorem prodF_bound' (f : Int → Int) (B : Int) (hB : 0 ≤ B) (hB2 : B ≤ 140) (l : List Int) (hl : l.length ≤ 6) (h : ∀ x ∈ l, 0 ≤ f x ∧ f x ≤ B) : 0 ≤ prodF f l ∧ prodF f l ≤ 7529536000000 := by
  obtain ⟨h1, h2⟩ := prodF_bound f B hB l h
  exact ⟨h1, Int.le_trans h2 (Int.le_trans (pow_bound B 140 hB hB2 _).2 (pow6 _ hl))⟩
theorem rd_range (l : List Int) (c : Int) (h0 : 0 ≤ c) (h1 : c < l.length) : rd l c ∈ l := by
  obtain ⟨n, rfl⟩ := Int.eq_ofNat_of_zero_le h0
  exact rd_mem l n (by omega)
theorem wordB_bounds {c : Int} {l : List Int} (h : wordB c l = true) : (∀ x ∈ l, 0 ≤ x ∧ x < c) ∧ 1 ≤ c ∧ c ≤ 3 ∧ l.length ≤ 6 := by
  simp only [wordB, colB, Bool.and_eq_true, List.all_eq_true, decide_eq_true_eq] at h
  exact ⟨h.1, by omega, by omega, by omega⟩
/-- The counts of a word, one draw after the other. -/
def cstep (l : List Int) (w : Int) : List Int := l.set w.toNat (rd l w + 1)
def cntsOf (c : Nat) (word : List Int) : List Int := word.foldl cstep (List.replicate c 0)
theorem cstep_length (l : List Int) (w : Int) : (cstep l w).length = l.length := by simp [cstep]
theorem foldl_cstep_length (ws : List Int) : ∀ l : List Int, (ws.foldl cstep l).length = l.length := by
  induction ws with
  | nil => intro l; rfl
  | cons w ws ih => intro l; rw [List.foldl_cons, ih, cstep_length]
theorem cstep_bound (l : List Int) (w B : Int) (hB : 0 ≤ B) (h : ∀ x ∈ l, 0 ≤ x ∧ x ≤ B) : ∀ x ∈ cstep l w, 0 ≤ x ∧ x ≤ B + 1 := by
  intro x hx
  rcases List.mem_or_eq_of_mem_set hx with hx | rfl
  · have := h x hx; omega
  · have : rd l w = 0 ∨ rd l w ∈ l := by
      unfold rd
      by_cases hh : w.toNat < l.length
      · right; simp [hh]
      · left; simp [List.getD_eq_getElem?_getD, List.getElem?_eq_none (show l.length ≤ w.toNat by omega)]
    rcases this with h1 | h1
    · omega
    · have := h _ h1; omega
theorem foldl_cstep_bound (ws : List Int) : ∀ (l : List Int) (B : Int), 0 ≤ B → (∀ x ∈ l, 0 ≤ x ∧ x ≤ B) → ∀ x ∈ ws.foldl cstep l, 0 ≤ x ∧ x ≤ B + ws.length := by
  induction ws with
  | nil => intro l B hB h x hx; have := h x hx; simp; omega
  | cons w ws ih =>
    intro l B hB h x hx
    have := ih (cstep l w) (B + 1) (by omega) (cstep_bound l w B hB h) x hx
    rw [List.length_cons]; omega
theorem cntsOf_bound (c : Nat) (ws : List Int) : ∀ x ∈ cntsOf c ws, 0 ≤ x ∧ x ≤ ws.length := by
  intro x hx
  have := foldl_cstep_bound ws (List.replicate c 0) 0 (by omega) (fun y hy => by have := List.eq_of_mem_replicate hy; omega) x hx
  omega
theorem cntsOf_length (c : Nat) (ws : List Int) : (cntsOf c ws).length = c := by unfold cntsOf; rw [foldl_cstep_length, List.length_replicate]
/-- What is laid over a list that is marked. -/
def iota (k : Int) : Nat → List Int
  | 0 => []
  | n + 1 => k :: iota (k + 1) n
theorem iota_length (k : Int) (n : Nat) : (iota k n).length = n := by
  induction n generalizing k with
  | zero => rfl
  | succ n ih => simp [iota, ih]
theorem iota_snoc (k : Int) (n : Nat) : iota k (n + 1) = iota k n ++ [k + n] := by
  induction n generalizing k with
  | zero => simp [iota]
  | succ n ih => rw [iota, ih (k + 1)]; simp [iota]; omega
theorem iota_rd (n : Nat) : ∀ (k : Int) (i : Nat), i < n → rd (iota k n) (i : Int) = k + i := by
  induction n with
  | zero => intro k i hi; omega
  | succ n ih =>
    intro k i hi
    cases i with
    | zero => simp [iota, rd]
    | succ i =>
      have := ih (k + 1) i (by omega)
      simp only [rd, Int.toNat_natCast] at this ⊢
      simp only [iota, List.getD_cons_succ]
      rw [this]; omega
theorem bits_xor_small (a b : Nat) (ha : a < 1152921504606846976) (hb : b < 1152921504606846976) : Go.bits .xor .i64 (a : Int) (b : Int) = ((a ^^^ b : Nat) : Int) := by
  have hx : a ^^^ b < 2 ^ 60 := Nat.xor_lt_two_pow (by omega) (by omega)
  have h1 : (BitVec.ofInt 64 (a : Int)).toNat = a := by
    rw [BitVec.ofInt_natCast, BitVec.toNat_ofNat]; exact Nat.mod_eq_of_lt (by omega)
  have h2 : (BitVec.ofInt 64 (b : Int)).toNat = b := by
    rw [BitVec.ofInt_natCast, BitVec.toNat_ofNat]; exact Nat.mod_eq_of_lt (by omega)
  show IntKind.i64.wrap ((BitVec.ofInt 64 (a : Int) ^^^ BitVec.ofInt 64 (b : Int)).toNat : Int) = _
  rw [BitVec.toNat_xor, h1, h2, IntKind.wrap_i64]
  omega
theorem xor_nonneg (a b : Int) (ha : 0 ≤ a) (ha2 : a < 1000000000000) (hb : 0 ≤ b) (hb2 : b < 1000000000000) : 0 ≤ Go.bits .xor .i64 a b := by
  obtain ⟨m, rfl⟩ := Int.eq_ofNat_of_zero_le ha
  obtain ⟨n, rfl⟩ := Int.eq_ofNat_of_zero_le hb
  rw [bits_xor_small m n (by omega) (by omega)]
  omega
theorem tmod_range (x n : Int) (h : 0 ≤ x) (hn : 0 < n) : 0 ≤ Int.tmod x n ∧ Int.tmod x n < n := by
  rw [Int.tmod_eq_emod_of_nonneg h]
  exact ⟨Int.emod_nonneg _ (by omega), Int.emod_lt_of_pos _ hn⟩
theorem tdiv_range (x n : Int) (h : 0 ≤ x) (hn : 0 < n) : 0 ≤ Int.tdiv x n ∧ Int.tdiv x n ≤ x := by
  rw [Int.tdiv_eq_ediv_of_nonneg h]
  exact ⟨Int.ediv_nonneg h (by omega), Int.ediv_le_self _ h⟩
/-- The chance of a colour. -/
def chanceP (l : List Int) (c : Int) : Int × Int × Bool :=
  if urnB l = true ∧ 0 ≤ c ∧ c < l.length ∧ 0 < tot l then (rd l c / (Nat.gcd (rd l c).toNat (tot l).toNat : Int), tot l / (Nat.gcd (rd l c).toNat (tot l).toNat : Int), true) else (0, 0, false)
/-! ### rules -/
def rowR (r : List (List Int)) (c : Int) : List Int := r.getD c.toNat []
theorem rowR_nat (r : List (List Int)) (i : Nat) (h : i < r.length) : rowR r (i : Int) = r[i] := by simp [rowR, h]
theorem drop_rowR (r : List (List Int)) (i : Nat) (h : i < r.length) : r.drop i = rowR r (i : Int) :: r.drop (i + 1) := by
  rw [rowR_nat r i h]; exact List.drop_eq_getElem_cons h
theorem take_rowR (r : List (List Int)) (i : Nat) (h : i < r.length) : r.take (i + 1) = r.take i ++ [rowR r (i : Int)] := by
  rw [rowR_nat r i h]; exact List.take_succ_eq_append_getElem h
theorem rowR_mem (r : List (List Int)) (i : Nat) (h : i < r.length) : rowR r (i : Int) ∈ r := by rw [rowR_nat r i h]; exact List.getElem_mem h
theorem rowR_range (r : List (List Int)) (c : Int) (h0 : 0 ≤ c) (h1 : c < r.length) : rowR r c ∈ r := by
  obtain ⟨n, rfl⟩ := Int.eq_ofNat_of_zero_le h0
  exact rowR_mem r n (by omega)
def entB (i j x : Int) : Bool := decide (-1 ≤ x ∧ x ≤ 3 ∧ (x = -1 → i = j))
def entsB (i : Int) : Int → List Int → Bool
  | _, [] => true
  | j, x :: xs => entB i j x && entsB i (j + 1) xs
def rowB (c i : Int) (row : List Int) : Bool := decide ((row.length : Int) = c) && entsB i 0 row
def rowsB (c : Int) : Int → List (List Int) → Bool
  | _, [] => true
  | i, r :: rs => rowB c i r && rowsB c (i + 1) rs
def ruleB (c : Int) (rule : List (List Int)) : Bool := rowsB c 0 rule && (colB c && decide ((rule.length : Int) = c))
theorem entsB_bounds (i : Int) : ∀ (l : List Int) (j : Int), entsB i j l = true → ∀ x ∈ l, -1 ≤ x ∧ x ≤ 3 := by
  intro l
  induction l with
  | nil => intro j _ x hx; simp at hx
  | cons y l ih =>
    intro j h x hx
    simp only [entsB, Bool.and_eq_true, entB, decide_eq_true_eq] at h
    rcases List.mem_cons.1 hx with rfl | hx
    · exact ⟨h.1.1, h.1.2.1⟩
    · exact ih _ h.2 x hx
theorem entsB_at (i : Int) : ∀ (l : List Int) (j : Int) (n : Nat) (h : n < l.length), entsB i j l = true → entB i (j + n) (l[n]) = true := by
  intro l
  induction l with
  | nil => intro j n h; simp at h
  | cons y l ih =>
    intro j n hn h
    simp only [entsB, Bool.and_eq_true] at h
    cases n with
    | zero => simpa using h.1
    | succ n =>
      have := ih (j + 1) n (by simpa using hn) h.2
      rw [show j + ((n + 1 : Nat) : Int) = j + 1 + n from by omega]
      simpa using this
theorem rowsB_at (c : Int) : ∀ (r : List (List Int)) (i : Int) (n : Nat) (h : n < r.length), rowsB c i r = true → rowB c (i + n) (r[n]) = true := by
  intro r
  induction r with
  | nil => intro i n h; simp at h
  | cons y r ih =>
    intro i n hn h
    simp only [rowsB, Bool.and_eq_true] at h
    cases n with
    | zero => simpa using h.1
    | succ n =>
      have := ih (i + 1) n (by simpa using hn) h.2
      rw [show i + ((n + 1 : Nat) : Int) = i + 1 + n from by omega]
      simpa using this
/-- What is known of a rule. -/
structure RuleK (c : Nat) (r : List (List Int)) : Prop where
  c1 : 1 ≤ c
  c3 : c ≤ 3
  len : r.length = c
  rows : ∀ i : Nat, i < c → (rowR r i).length = c
  ent : ∀ i j : Nat, i < c → j < c → -1 ≤ rd (rowR r i) j ∧ rd (rowR r i) j ≤ 3 ∧ (rd (rowR r i) j = -1 → i = j)
theorem ruleB_known {c : Int} {r : List (List Int)} (h : ruleB c r = true) : RuleK c.toNat r ∧ 1 ≤ c ∧ c ≤ 3 := by
  simp only [ruleB, colB, Bool.and_eq_true, decide_eq_true_eq] at h
  obtain ⟨h1, ⟨h2, h3⟩, h4⟩ := h
  have hrow : ∀ i : Nat, i < c.toNat → rowB c i (rowR r i) = true := fun i hi => by
    have := rowsB_at c r 0 i (by omega) h1
    rw [rowR_nat r i (by omega)]
    simpa using this
  have hlen : ∀ i : Nat, i < c.toNat → (rowR r i).length = c.toNat := fun i hi => by
    have := hrow i hi
    simp only [rowB, Bool.and_eq_true, decide_eq_true_eq] at this
    omega
  refine ⟨⟨by omega, by omega, by omega, hlen, fun i j hi hj => ?_⟩, h2, h3⟩
  have hr := hrow i hi
  simp only [rowB, Bool.and_eq_true, decide_eq_true_eq] at hr
  have h5 := entsB_at i (rowR r i) 0 j (by rw [hlen i hi]; exact hj) hr.2
  rw [rd_nat _ j (by rw [hlen i hi]; exact hj)]
  simp only [entB, decide_eq_true_eq] at h5
  exact ⟨h5.1, h5.2.1, fun h6 => by have := h5.2.2 h6; omega⟩
/-- The sums of two rows. -/
def addL (a b : List Int) : List Int := List.zipWith (· + ·) a b
theorem addL_length (a b : List Int) (h : b.length = a.length) : (addL a b).length = a.length := by simp [addL]; omega
theorem addL_rd (a b : List Int) (i : Nat) (h : i < a.length) (h2 : b.length = a.length) : rd (addL a b) (i : Int) = rd a i + rd b i := by
  rw [rd_nat _ i (by rw [addL_length a b h2]; exact h), rd_nat a i h, rd_nat b i (by omega)]
  simp [addL]
/-- What draws make of an urn. -/
def afterL (r : List (List Int)) (u w : List Int) : List Int := w.foldl (fun u c => addL u (rowR r c)) u
/-- In how many ways a word comes out. -/
def waysL (r : List (List Int)) : List Int → List Int → Int
  | _, [] => 1
  | u, c :: w => mx 0 (rd u c) * waysL r (addL u (rowR r c)) w
/-- Within bounds, draw after draw. -/
def Near (B : Int) (c n : Nat) (u : List Int) : Prop := u.length = c ∧ (∀ i : Nat, i < c → -(n : Int) ≤ rd u i ∧ rd u i ≤ B + 3 * (n : Int)) ∧ 0 ≤ B ∧ B ≤ 40
theorem near_start {u : List Int} (h : startB u = true) : Near 10 u.length 0 u ∧ 1 ≤ u.length ∧ u.length ≤ 3 ∧ (∀ x ∈ u, 0 ≤ x ∧ x ≤ 10) ∧ urnB u = true := by
  simp only [startB, Bool.and_eq_true, List.all_eq_true, decide_eq_true_eq] at h
  obtain ⟨h1, h2⟩ := h
  obtain ⟨h3, h4, h5⟩ := urnB_bounds h2
  have hx : ∀ x ∈ u, 0 ≤ x ∧ x ≤ 10 := fun x hx => ⟨(h3 x hx).1, h1 x hx⟩
  exact ⟨⟨rfl, fun i hi => by have := hx _ (rd_mem u i hi); omega, by omega, by omega⟩, h4, h5, hx, h2⟩
theorem near_step {B : Int} {c n : Nat} {u : List Int} {r : List (List Int)} (h : Near B c n u) (hr : RuleK c r) (q : Int) (h0 : 0 ≤ q) (h1 : q < (c : Int)) : Near B c (n + 1) (addL u (rowR r q)) := by
  obtain ⟨m, rfl⟩ := Int.eq_ofNat_of_zero_le h0
  have hl := hr.rows m (by omega)
  refine ⟨by rw [addL_length _ _ (by rw [hl, h.1]), h.1], fun i hi => ?_, h.2.2⟩
  rw [addL_rd _ _ i (by rw [h.1]; exact hi) (by rw [hl, h.1])]
  have := h.2.1 i hi; have := hr.ent m i (by omega) hi
  omega
theorem near_after {B : Int} {c : Nat} {r : List (List Int)} (hr : RuleK c r) : ∀ (w : List Int) (n : Nat) (u : List Int), Near B c n u → (∀ q ∈ w, 0 ≤ q ∧ q < (c : Int)) → Near B c (n + w.length) (afterL r u w) := by
  intro w
  induction w with
  | nil => intro n u h _; exact h
  | cons q w ih =>
    intro n u h hw
    have := ih (n + 1) _ (near_step h hr q (hw q List.mem_cons_self).1 (hw q List.mem_cons_self).2) (fun x hx => hw x (List.mem_cons_of_mem _ hx))
    rw [List.length_cons, show n + (w.length + 1) = n + 1 + w.length by omega]
    exact this
theorem afterL_snoc (r : List (List Int)) (u w : List Int) (q : Int) : afterL r u (w ++ [q]) = addL (afterL r u w) (rowR r q) := by simp [afterL, List.foldl_append]
theorem waysL_snoc (r : List (List Int)) : ∀ (w u : List Int) (q : Int), waysL r u (w ++ [q]) = waysL r u w * mx 0 (rd (afterL r u w) q) := by
  intro w
  induction w with
  | nil => intro u q; simp [waysL, afterL]
  | cons x w ih => intro u q; simp only [List.cons_append, waysL]; rw [ih, Int.mul_assoc]; rfl
theorem waysL_append (r : List (List Int)) : ∀ (a b u : List Int), waysL r u (a ++ b) = waysL r u a * waysL r (afterL r u a) b := by
  intro a
  induction a with
  | nil => intro b u; simp [waysL, afterL]
  | cons x a ih => intro b u; simp only [List.cons_append, waysL]; rw [ih, Int.mul_assoc]; rfl
theorem near_rd {B : Int} {c n : Nat} {u : List Int} (h : Near B c n u) (q : Int) (h0 : 0 ≤ q) (h1 : q < (c : Int)) : -(n : Int) ≤ rd u q ∧ rd u q ≤ 40 + 3 * (n : Int) := by
  obtain ⟨m, rfl⟩ := Int.eq_ofNat_of_zero_le h0
  have := h.2.1 m (by omega); have := h.2.2
  omega
theorem waysL_bound {B : Int} {c : Nat} {r : List (List Int)} (hr : RuleK c r) : ∀ (w : List Int) (n : Nat) (u : List Int), Near B c n u → n + w.length ≤ 6 → (∀ q ∈ w, 0 ≤ q ∧ q < (c : Int)) → 0 ≤ waysL r u w ∧ waysL r u w ≤ 58 ^ w.length := by
  intro w
  induction w with
  | nil => intro n u _ _ _; simp [waysL]
  | cons q w ih =>
    intro n u h hn hw
    rw [List.length_cons] at hn
    have h1 := hw q List.mem_cons_self
    have h2 := ih (n + 1) _ (near_step h hr q h1.1 h1.2) (by omega) (fun x hx => hw x (List.mem_cons_of_mem _ hx))
    have h3 := near_rd h q h1.1 h1.2
    have h4 : 0 ≤ mx 0 (rd u q) ∧ mx 0 (rd u q) ≤ 58 := by rw [mx_comm]; exact mx_bound _ 58 (by omega) (by omega)
    simp only [waysL, List.length_cons]
    rw [Int.pow_succ, Int.mul_comm (58 ^ w.length)]
    exact mulb h4.1 h4.2 h2.1 h2.2
theorem waysL_bound' {B : Int} {c : Nat} {r : List (List Int)} (hr : RuleK c r) (w u : List Int) (h : Near B c 0 u) (hl : w.length ≤ 6) (hw : ∀ q ∈ w, 0 ≤ q ∧ q < (c : Int)) : 0 ≤ waysL r u w ∧ waysL r u w ≤ 7529536000000 := by
  have := waysL_bound hr w 0 u h (by omega) hw
  exact ⟨this.1, Int.le_trans this.2 (Int.le_trans (pow_bound 58 140 (by omega) (by omega) _).2 (pow6 _ hl))⟩
/-- AfterWord's answer. -/
def afterP (u : List Int) (r : List (List Int)) (w : List Int) : List Int × Bool :=
  if startB u = true ∧ ruleB u.length r = true ∧ wordB u.length w = true then (if waysL r u w = 0 then ([], false) else (afterL r u w, true)) else ([], false)
/-- RuleWays' answer. -/
def waysP (u : List Int) (r : List (List Int)) (w : List Int) : Int :=
  if startB u = true ∧ ruleB u.length r = true ∧ wordB u.length w = true then waysL r u w else -1
/-- EvenRule's answer. -/
def evenP (c : Int) (r : List (List Int)) : Int × Bool :=
  if ruleB c r = true ∧ (∀ x ∈ r, tot x = tot (rowR r 0)) then (tot (rowR r 0), true) else (0, false)
theorem pos_step {c : Nat} {u : List Int} {r : List (List Int)} (hl : u.length = c) (hr : RuleK c r) (hu : ∀ i : Nat, i < c → 0 ≤ rd u i) (q : Int) (h0 : 0 ≤ q) (h1 : q < (c : Int)) (h2 : 1 ≤ rd u q) : ∀ i : Nat, i < c → 0 ≤ rd (addL u (rowR r q)) i := by
  obtain ⟨m, rfl⟩ := Int.eq_ofNat_of_zero_le h0
  intro i hi
  rw [addL_rd _ _ i (by omega) (by rw [hr.rows m (by omega), hl])]
  have h3 := hr.ent m i (by omega) hi
  have h4 := hu i hi
  by_cases h5 : rd (rowR r (m : Int)) (i : Int) = -1
  · have h6 := h3.2.2 h5
    subst h6
    omega
  · omega
theorem pos_after {c : Nat} {r : List (List Int)} (hr : RuleK c r) : ∀ (w u : List Int), u.length = c → (∀ i : Nat, i < c → 0 ≤ rd u i) → (∀ q ∈ w, 0 ≤ q ∧ q < (c : Int)) → waysL r u w ≠ 0 → ∀ i : Nat, i < c → 0 ≤ rd (afterL r u w) i := by
  intro w
  induction w with
  | nil => intro u _ hu _ _; exact hu
  | cons q w ih =>
    intro u hl hu hw h0
    have hq := hw q List.mem_cons_self
    simp only [waysL] at h0
    have h1 : mx 0 (rd u q) ≠ 0 := fun h => h0 (by rw [h, Int.zero_mul])
    have h2 : 1 ≤ rd u q := by unfold mx at h1; split at h1 <;> omega
    obtain ⟨m, hm⟩ := Int.eq_ofNat_of_zero_le hq.1
    have hlen : (addL u (rowR r q)).length = c := by rw [addL_length _ _ (by rw [hm, hr.rows m (by omega), hl]), hl]
    exact ih _ hlen (pos_step hl hr hu q hq.1 hq.2 h2) (fun x hx => hw x (List.mem_cons_of_mem _ hx)) (fun h => h0 (by rw [h, Int.mul_zero]))
theorem all_of_rd {u : List Int} {P : Int → Prop} (h : ∀ i : Nat, i < u.length → P (rd u i)) : ∀ x ∈ u, P x := by
  intro x hx
  obtain ⟨i, hi, rfl⟩ := List.mem_iff_getElem.1 hx
  have := h i hi
  rwa [rd_nat u i hi] at this
theorem tot_addL : ∀ (a b : List Int), b.length = a.length → tot (addL a b) = tot a + tot b := by
  intro a
  induction a with
  | nil => intro b h; cases b with
    | nil => rfl
    | cons y b => simp at h
  | cons x a ih =>
    intro b h
    cases b with
    | nil => simp at h
    | cons y b =>
      have := ih b (by simpa using h)
      simp only [addL, List.zipWith_cons_cons, tot] at this ⊢
      omega
theorem tot_after {c : Nat} {r : List (List Int)} (hr : RuleK c r) (m : Int) (he : ∀ x ∈ r, tot x = m) : ∀ (w u : List Int), u.length = c → (∀ q ∈ w, 0 ≤ q ∧ q < (c : Int)) → tot (afterL r u w) = tot u + m * w.length := by
  intro w
  induction w with
  | nil => intro u _ _; simp [afterL]
  | cons q w ih =>
    intro u hl hw
    have hq := hw q List.mem_cons_self
    obtain ⟨n, hn⟩ := Int.eq_ofNat_of_zero_le hq.1
    have hrow : (rowR r q).length = u.length := by rw [hn, hr.rows n (by omega), hl]
    have h1 := ih (addL u (rowR r q)) (by rw [addL_length _ _ hrow, hl]) (fun x hx => hw x (List.mem_cons_of_mem _ hx))
    have h2 : tot (rowR r q) = m := he _ (rowR_range r q hq.1 (by rw [hr.len]; exact hq.2))
    show tot (afterL r (addL u (rowR r q)) w) = _
    rw [h1, tot_addL _ _ hrow, h2, List.length_cons, Int.natCast_add, Int.mul_add]
    simp; omega
theorem row_bounds {c : Nat} {r : List (List Int)} (hr : RuleK c r) : ∀ x ∈ r, x.length = c ∧ ∀ y ∈ x, -1 ≤ y ∧ y ≤ 3 := by
  intro x hx
  obtain ⟨i, hi, rfl⟩ := List.mem_iff_getElem.1 hx
  have e := rowR_nat r i hi
  have hi' : i < c := by have := hr.len; omega
  have hl : (r[i]).length = c := by rw [← e]; exact hr.rows i hi'
  refine ⟨hl, all_of_rd fun j hj => ?_⟩
  rw [← e]
  have := hr.ent i j hi' (by omega)
  exact ⟨this.1, this.2.1⟩
theorem row_tot {c : Nat} {r : List (List Int)} (hr : RuleK c r) : ∀ x ∈ r, -9 ≤ tot x ∧ tot x ≤ 9 := by
  intro x hx
  obtain ⟨h1, h2⟩ := row_bounds hr x hx
  have h3 := tot_abs x 3 (by omega) (fun y hy => by have := h2 y hy; omega)
  have := hr.c3
  omega
/-- PutIn's, PouredUrn's answers. -/
def putP (u : List Int) (c m : Int) : List Int × Bool :=
  if (urnB u = true ∧ 0 ≤ c ∧ c < u.length ∧ -40 ≤ m ∧ m ≤ 40) ∧ urnB (u.set c.toNat (rd u c + m)) = true then (u.set c.toNat (rd u c + m), true) else ([], false)
def pourP (a b : List Int) : List Int × Bool :=
  if (urnB a = true ∧ urnB b = true ∧ a.length = b.length) ∧ urnB (addL a b) = true then (addL a b, true) else ([], false)
theorem putP_len (u : List Int) (c m : Int) : (putP u c m).1.length ≤ 3 := by
  unfold putP
  by_cases h : (urnB u = true ∧ 0 ≤ c ∧ c < u.length ∧ -40 ≤ m ∧ m ≤ 40) ∧ urnB (u.set c.toNat (rd u c + m)) = true
  · rw [if_pos h]; exact (urnB_bounds h.2).2.2
  · rw [if_neg h]; simp
theorem pourP_len (a b : List Int) : (pourP a b).1.length ≤ 3 := by
  unfold pourP
  by_cases h : (urnB a = true ∧ urnB b = true ∧ a.length = b.length) ∧ urnB (addL a b) = true
  · rw [if_pos h]; exact (urnB_bounds h.2).2.2
  · rw [if_neg h]; simp
/-- More of the same: the first rows of the rule. -/
def sameL (c : Nat) (s : Int) : Nat → List (List Int)
  | 0 => []
  | i + 1 => sameL c s i ++ [(List.replicate c 0).set i s]
theorem sameL_length (c : Nat) (s : Int) (i : Nat) : (sameL c s i).length = i := by
  induction i with
  | zero => rfl
  | succ i ih => simp [sameL, ih]
def sameP (c s : Int) : List (List Int) := if (1 ≤ c ∧ c ≤ 3) ∧ -1 ≤ s ∧ s ≤ 3 then sameL c.toNat s c.toNat else []
theorem sameL_rows (c : Nat) (s : Int) : ∀ i, ∀ x ∈ sameL c s i, x.length = c := by
  intro i
  induction i with
  | zero => intro x hx; simp [sameL] at hx
  | succ i ih =>
    intro x hx
    rcases List.mem_append.1 hx with hx | hx
    · exact ih x hx
    · have e : x = (List.replicate c 0).set i s := by simpa using hx
      rw [e]; simp
theorem same_rule (c : Nat) (s : Int) (h1 : 1 ≤ c) (h2 : c ≤ 3) (h3 : -1 ≤ s) (h4 : s ≤ 3) : ruleB c (sameL c s c) = true ∧ evenP c (sameL c s c) = (s, true) := by
  have hc : c = 1 ∨ c = 2 ∨ c = 3 := by omega
  have hs : s = -1 ∨ s = 0 ∨ s = 1 ∨ s = 2 ∨ s = 3 := by omega
  rcases hc with rfl | rfl | rfl <;> rcases hs with rfl | rfl | rfl | rfl | rfl <;> decide
theorem sameL_at (c : Nat) (s : Int) : ∀ (i n : Nat), n < i → rowR (sameL c s i) (n : Int) = (List.replicate c 0).set n s := by
  intro i
  induction i with
  | zero => intro n h; omega
  | succ i ih =>
    intro n h
    have hl := sameL_length c s i
    rw [rowR_nat _ n (by rw [sameL_length]; exact h)]
    by_cases hn : n = i
    · subst hn
      simp only [sameL]
      rw [List.getElem_append_right (by omega)]
      simp [hl]
    · have := ih n (by omega)
      rw [rowR_nat _ n (by omega)] at this
      simp only [sameL]
      rw [List.getElem_append_left (by omega)]
      exact this
theorem addL_same (c : Nat) (s : Int) (u : List Int) (hu : u.length = c) (q : Int) (h0 : 0 ≤ q) (h1 : q < (c : Int)) : addL u (rowR (sameL c s c) q) = u.set q.toNat (rd u q + s) := by
  obtain ⟨n, rfl⟩ := Int.eq_ofNat_of_zero_le h0
  rw [sameL_at c s c n (by omega), Int.toNat_natCast]
  apply List.ext_getElem
  · simp [addL, hu]
  · intro i hi1 hi2
    have hi : i < u.length := by simpa using hi2
    simp only [addL, List.getElem_zipWith, List.getElem_set]
    by_cases hn : n = i
    · subst hn
      simp [rd_nat u n hi]
    · simp [hn]
/-- WordWays' answer. -/
def wwP (u w : List Int) : Int := if urnB u = true ∧ wordB u.length w = true then waysL (sameL u.length (-1) u.length) u w else -1
theorem near_urn {u : List Int} (h : urnB u = true) : Near 40 u.length 0 u := by
  obtain ⟨h1, h2, h3⟩ := urnB_bounds h
  exact ⟨rfl, fun i hi => by have := h1 _ (rd_mem u i hi); omega, by omega, by omega⟩
/-- A chance that is told. -/
theorem chanceP_true {l : List Int} {c : Int} (h : urnB l = true ∧ 0 ≤ c ∧ c < l.length ∧ 0 < tot l) : ∃ n d g : Int, chanceP l c = (n, d, true) ∧ 0 ≤ n ∧ n ≤ 40 ∧ 1 ≤ d ∧ d ≤ 120 ∧ 1 ≤ g ∧ rd l c = n * g ∧ tot l = d * g := by
  obtain ⟨h1, h2, h3⟩ := urnB_bounds h.1
  have ht := tot_bound l 40 (by omega) h1
  have hr := h1 _ (rd_range l c h.2.1 h.2.2.1)
  have hg : 0 < Nat.gcd (rd l c).toNat (tot l).toNat := Nat.gcd_pos_of_pos_right _ (by omega)
  have d1 : ((Nat.gcd (rd l c).toNat (tot l).toNat : Nat) : Int) ∣ rd l c := by
    have := Nat.gcd_dvd_left (rd l c).toNat (tot l).toNat
    have e : ((rd l c).toNat : Int) = rd l c := by omega
    have h7 := Int.natCast_dvd_natCast.2 this; rw [e] at h7; exact h7
  have d2 : ((Nat.gcd (rd l c).toNat (tot l).toNat : Nat) : Int) ∣ tot l := by
    have := Nat.gcd_dvd_right (rd l c).toNat (tot l).toNat
    have e : ((tot l).toNat : Int) = tot l := by omega
    have h7 := Int.natCast_dvd_natCast.2 this; rw [e] at h7; exact h7
  generalize hgg : ((Nat.gcd (rd l c).toNat (tot l).toNat : Nat) : Int) = g at d1 d2
  have hg1 : 1 ≤ g := by omega
  refine ⟨rd l c / g, tot l / g, g, ?_, Int.ediv_nonneg hr.1 (by omega), Int.le_trans (Int.ediv_le_self _ hr.1) hr.2, ?_, Int.le_trans (Int.ediv_le_self _ ht.1) (by omega), hg1, (Int.ediv_mul_cancel d1).symm, (Int.ediv_mul_cancel d2).symm⟩
  · unfold chanceP; rw [if_pos h, hgg]
  · have e := Int.ediv_mul_cancel d2
    have h5 := Int.ediv_nonneg ht.1 (show (0 : Int) ≤ g by omega)
    by_cases h6 : tot l / g = 0
    · rw [h6, Int.zero_mul] at e; omega
    · omega
/-! ### sums over numbers and over words -/
def sumN (f : Nat → Int) : Nat → Int
  | 0 => 0
  | n + 1 => sumN f n + f n
theorem sumN_congr {f g : Nat → Int} : ∀ n, (∀ i, i < n → f i = g i) → sumN f n = sumN g n := by
  intro n
  induction n with
  | zero => intro _; rfl
  | succ n ih => intro h; simp only [sumN]; rw [ih (fun i hi => h i (by omega)), h n (by omega)]
theorem sumN_add (f g : Nat → Int) (n : Nat) : sumN (fun i => f i + g i) n = sumN f n + sumN g n := by
  induction n with
  | zero => rfl
  | succ n ih => simp only [sumN, ih]; omega
theorem sumN_mul (a : Int) (f : Nat → Int) (n : Nat) : sumN (fun i => a * f i) n = a * sumN f n := by
  induction n with
  | zero => simp [sumN]
  | succ n ih => simp only [sumN, ih, Int.mul_add]
theorem sumN_zero (n : Nat) : sumN (fun _ => 0) n = 0 := by
  induction n with
  | zero => rfl
  | succ n ih => simp only [sumN, ih]; rfl
theorem sumN_bound (f : Nat → Int) (B : Int) : ∀ n, (∀ i, i < n → 0 ≤ f i ∧ f i ≤ B) → 0 ≤ sumN f n ∧ sumN f n ≤ n * B := by
  intro n
  induction n with
  | zero => intro _; simp [sumN]
  | succ n ih =>
    intro h
    have h1 := ih (fun i hi => h i (by omega)); have h2 := h n (by omega)
    have e : ((n + 1 : Nat) : Int) * B = n * B + B := by rw [Int.natCast_add, Int.add_mul]; simp
    simp only [sumN]; rw [e]; omega
theorem sumN_split (f : Nat → Int) (c : Nat) : ∀ n a, sumN f (a + n) = sumN f a + sumN (fun i => f (a + i)) n := by
  intro n a
  induction n with
  | zero => simp [sumN]
  | succ n ih => rw [← Nat.add_assoc]; simp only [sumN]; rw [ih]; omega
theorem sumN_blocks (f : Nat → Int) (c : Nat) : ∀ n, sumN f (n * c) = sumN (fun q => sumN (fun r => f (q * c + r)) c) n := by
  intro n
  induction n with
  | zero => simp [sumN]
  | succ n ih => rw [Nat.succ_mul, sumN_split f c c (n * c), ih]; rfl
theorem sumN_swap (f : Nat → Nat → Int) (a b : Nat) : sumN (fun i => sumN (fun j => f i j) b) a = sumN (fun j => sumN (fun i => f i j) a) b := by
  induction a with
  | zero => simp [sumN, sumN_zero]
  | succ a ih => simp only [sumN]; rw [ih, sumN_add]
theorem tot_sumN (l : List Int) : tot l = sumN (fun i => rd l (i : Int)) l.length := by
  have key : ∀ n, n ≤ l.length → sumN (fun i => rd l (i : Int)) n = tot (l.take n) := by
    intro n
    induction n with
    | zero => intro _; simp [sumN, tot]
    | succ n ih => intro h; simp only [sumN]; rw [ih (by omega), take_rd l n (by omega), tot_append]; simp [tot]
  have := key l.length (Nat.le_refl _)
  rw [List.take_of_length_le (Nat.le_refl _)] at this
  exact this.symm
/-- The sum of F over all words of m draws of c colours. -/
def wsum (c : Nat) : Nat → (List Int → Int) → Int
  | 0, F => F []
  | m + 1, F => sumN (fun r => wsum c m (fun w => F ((r : Int) :: w))) c
theorem wsum_congr (c : Nat) : ∀ (m : Nat) {F G : List Int → Int}, (∀ w, w.length = m → (∀ q ∈ w, 0 ≤ q ∧ q < (c : Int)) → F w = G w) → wsum c m F = wsum c m G := by
  intro m
  induction m with
  | zero => intro F G h; exact h [] rfl (by simp)
  | succ m ih =>
    intro F G h
    simp only [wsum]
    refine sumN_congr c fun r hr => ih fun w hw hq => h _ (by simp [hw]) fun q hm => ?_
    rcases List.mem_cons.1 hm with rfl | hm
    · omega
    · exact hq q hm
theorem wsum_mul (c : Nat) (a : Int) : ∀ (m : Nat) (F : List Int → Int), wsum c m (fun w => a * F w) = a * wsum c m F := by
  intro m
  induction m with
  | zero => intro F; rfl
  | succ m ih => intro F; simp only [wsum]; rw [sumN_congr c (fun r _ => ih (fun w => F ((r : Int) :: w))), sumN_mul]
theorem wsum_sum (c : Nat) (n : Nat) : ∀ (m : Nat) (F : Nat → List Int → Int), wsum c m (fun w => sumN (fun i => F i w) n) = sumN (fun i => wsum c m (F i)) n := by
  intro m
  induction m with
  | zero => intro F; rfl
  | succ m ih =>
    intro F
    simp only [wsum]
    rw [sumN_congr c (fun r _ => ih (fun i w => F i ((r : Int) :: w))), sumN_swap]
theorem wsum_bound (c : Nat) (B : Int) (hB : 0 ≤ B) : ∀ (m : Nat) (F : List Int → Int), (∀ w, w.length = m → (∀ q ∈ w, 0 ≤ q ∧ q < (c : Int)) → 0 ≤ F w ∧ F w ≤ B) → 0 ≤ wsum c m F ∧ wsum c m F ≤ (c : Int) ^ m * B := by
  intro m
  induction m with
  | zero => intro F h; have := h [] rfl (by simp); simp [wsum]; exact this
  | succ m ih =>
    intro F h
    simp only [wsum]
    have := sumN_bound (fun r => wsum c m (fun w => F ((r : Int) :: w))) ((c : Int) ^ m * B) c (fun r hr => ih _ fun w hw hq => h _ (by simp [hw]) fun q hm => by
      rcases List.mem_cons.1 hm with rfl | hm
      · omega
      · exact hq q hm)
    refine ⟨this.1, ?_⟩
    rw [Int.pow_succ, Int.mul_comm ((c : Int) ^ m), Int.mul_assoc]
    exact this.2
/-- The word of a number, its first draw first. -/
def digits (c : Nat) : Nat → Nat → List Int
  | 0, _ => []
  | m + 1, n => ((n % c : Nat) : Int) :: digits c m (n / c)
theorem digits_length (c : Nat) : ∀ m n, (digits c m n).length = m := by
  intro m
  induction m with
  | zero => intro n; rfl
  | succ m ih => intro n; simp [digits, ih]
theorem digits_range (c : Nat) (hc : 1 ≤ c) : ∀ m n, ∀ q ∈ digits c m n, 0 ≤ q ∧ q < (c : Int) := by
  intro m
  induction m with
  | zero => intro n q hq; simp [digits] at hq
  | succ m ih =>
    intro n q hq
    rcases List.mem_cons.1 hq with rfl | hq
    · have := Nat.mod_lt n (show 0 < c by omega); omega
    · exact ih _ q hq
theorem wsum_digits (c : Nat) (hc : 1 ≤ c) : ∀ (m : Nat) (F : List Int → Int), sumN (fun n => F (digits c m n)) (c ^ m) = wsum c m F := by
  intro m
  induction m with
  | zero => intro F; simp [sumN, digits, wsum]
  | succ m ih =>
    intro F
    rw [Nat.pow_succ, sumN_blocks]
    have e : sumN (fun q => sumN (fun r => F (digits c (m + 1) (q * c + r))) c) (c ^ m) = sumN (fun q => (fun w => sumN (fun r => F ((r : Int) :: w)) c) (digits c m q)) (c ^ m) := by
      refine sumN_congr _ fun q _ => sumN_congr _ fun r hr => ?_
      simp only [digits]
      rw [show (q * c + r) % c = r from by rw [Nat.mul_comm, Nat.mul_add_mod, Nat.mod_eq_of_lt hr], show (q * c + r) / c = q from by rw [Nat.mul_comm, Nat.mul_add_div (by omega), Nat.div_eq_of_lt hr, Nat.add_zero]]
    rw [e]
    refine (ih (fun w => sumN (fun r => F ((r : Int) :: w)) c)).trans ?_
    rw [wsum_sum]
    rfl
theorem wsum_prod (u : List Int) : ∀ m, wsum u.length m (prodF (rd u)) = tot u ^ m := by
  intro m
  induction m with
  | zero => simp [wsum, prodF]
  | succ m ih =>
    simp only [wsum]
    have e : sumN (fun r => wsum u.length m (fun w => prodF (rd u) ((r : Int) :: w))) u.length = sumN (fun r => tot u ^ m * rd u (r : Int)) u.length := by
      refine sumN_congr _ fun r _ => ?_
      have : (fun w => prodF (rd u) ((r : Int) :: w)) = fun w => rd u (r : Int) * prodF (rd u) w := rfl
      rw [this, wsum_mul, ih, Int.mul_comm]
    rw [e, sumN_mul, ← tot_sumN, Int.pow_succ]
/-- All words by a rule: one draw first. -/
theorem wsum_ways (c : Nat) (r : List (List Int)) (u : List Int) (m : Nat) : wsum c (m + 1) (waysL r u) = sumN (fun k => mx 0 (rd u (k : Int)) * wsum c m (waysL r (addL u (rowR r (k : Int))))) c := by
  simp only [wsum]
  refine sumN_congr _ fun k _ => ?_
  have : (fun w => waysL r u ((k : Int) :: w)) = fun w => mx 0 (rd u (k : Int)) * waysL r (addL u (rowR r (k : Int))) w := rfl
  rw [this, wsum_mul]
/-- What is known of more of the same: the next draws may be exchanged. -/
theorem same_swap (c : Nat) (s : Int) (u : List Int) (hu : u.length = c) (x y : Int) (hx : 0 ≤ x ∧ x < (c : Int)) (hy : 0 ≤ y ∧ y < (c : Int)) (w : List Int) : waysL (sameL c s c) u (x :: y :: w) = waysL (sameL c s c) u (y :: x :: w) := by
  obtain ⟨a, rfl⟩ := Int.eq_ofNat_of_zero_le hx.1
  obtain ⟨b, rfl⟩ := Int.eq_ofNat_of_zero_le hy.1
  by_cases hab : a = b
  · subst hab; rfl
  · simp only [waysL]
    have e1 := addL_same c s u hu (a : Int) hx.1 hx.2
    have e2 := addL_same c s u hu (b : Int) hy.1 hy.2
    have e3 := addL_same c s _ (show (addL u (rowR (sameL c s c) (a : Int))).length = c by rw [e1, List.length_set]; exact hu) (b : Int) hy.1 hy.2
    have e4 := addL_same c s _ (show (addL u (rowR (sameL c s c) (b : Int))).length = c by rw [e2, List.length_set]; exact hu) (a : Int) hx.1 hx.2
    have r1 : rd (u.set a (rd u (a : Int) + s)) (b : Int) = rd u (b : Int) := by
      rw [rd_nat _ b (by rw [List.length_set]; omega), rd_nat u b (by omega), List.getElem_set_ne hab]
    have r2 : rd (u.set b (rd u (b : Int) + s)) (a : Int) = rd u (a : Int) := by
      rw [rd_nat _ a (by rw [List.length_set]; omega), rd_nat u a (by omega), List.getElem_set_ne (Ne.symm hab)]
    rw [e3, e4, e1, e2, Int.toNat_natCast, Int.toNat_natCast, r1, r2, List.set_comm _ _ hab]
    rw [← Int.mul_assoc, ← Int.mul_assoc, Int.mul_comm (mx 0 (rd u (a : Int)))]
theorem same_three (c : Nat) (s : Int) (u : List Int) (hu : u.length = c) (x y z : Int) (hx : 0 ≤ x ∧ x < (c : Int)) (hy : 0 ≤ y ∧ y < (c : Int)) (hz : 0 ≤ z ∧ z < (c : Int)) : waysL (sameL c s c) u [x, y, z] = waysL (sameL c s c) u [z, y, x] := by
  rw [same_swap c s u hu x y hx hy [z]]
  have h : waysL (sameL c s c) u [y, x, z] = waysL (sameL c s c) u [y, z, x] := by
    show _ * waysL _ _ [x, z] = _ * waysL _ _ [z, x]
    rw [same_swap c s _ (by rw [addL_same c s u hu y hy.1 hy.2, List.length_set]; exact hu) x z hx hz []]
  rw [h, same_swap c s u hu y z hy hz [x]]
theorem same_le (c : Nat) : ∀ (w u v : List Int), u.length = c → (∀ q ∈ w, 0 ≤ q ∧ q < (c : Int)) → (∀ i : Nat, i < c → mx 0 (rd u i) ≤ rd v i) → waysL (sameL c (-1) c) u w ≤ prodF (rd v) w := by
  intro w
  induction w with
  | nil => intro u v _ _ _; simp [waysL, prodF]
  | cons q w ih =>
    intro u v hu hw h
    have hq := hw q List.mem_cons_self
    obtain ⟨n, rfl⟩ := Int.eq_ofNat_of_zero_le hq.1
    have e := addL_same c (-1) u hu (n : Int) hq.1 hq.2
    have h1 := ih (addL u (rowR (sameL c (-1) c) (n : Int))) v (by rw [e, List.length_set]; exact hu) (fun x hx => hw x (List.mem_cons_of_mem _ hx)) (fun i hi => by
      rw [e, Int.toNat_natCast, rd_nat _ i (by rw [List.length_set]; omega)]
      by_cases hni : n = i
      · subst hni
        rw [List.getElem_set_self]
        have := h n hi
        unfold mx at this ⊢
        split at this <;> split <;> omega
      · rw [List.getElem_set_ne hni, ← rd_nat u i (by omega)]
        exact h i hi)
    simp only [waysL, prodF]
    have h2 := h n (by omega)
    have h3 : 0 ≤ mx 0 (rd u (n : Int)) := by unfold mx; split <;> omega
    have h4 : 0 ≤ prodF (rd v) w := by
      clear ih h1
      have : ∀ w : List Int, (∀ q ∈ w, 0 ≤ q ∧ q < (c : Int)) → 0 ≤ prodF (rd v) w := by
        intro w
        induction w with
        | nil => intro _; simp [prodF]
        | cons q w ih =>
          intro hw
          have hq := hw q List.mem_cons_self
          obtain ⟨m, rfl⟩ := Int.eq_ofNat_of_zero_le hq.1
          have h5 := h m (by omega)
          have h6 : 0 ≤ mx 0 (rd u (m : Int)) := by unfold mx; split <;> omega
          exact Int.mul_nonneg (by omega) (ih (fun x hx => hw x (List.mem_cons_of_mem _ hx)))
      exact this w (fun x hx => hw x (List.mem_cons_of_mem _ hx))
    calc mx 0 (rd u (n : Int)) * waysL (sameL c (-1) c) (addL u (rowR (sameL c (-1) c) (n : Int))) w ≤ mx 0 (rd u (n : Int)) * prodF (rd v) w := Int.mul_le_mul_of_nonneg_left h1 h3
      _ ≤ rd v (n : Int) * prodF (rd v) w := Int.mul_le_mul_of_nonneg_right h2 h4
theorem prodF_reverse (f : Int → Int) (l : List Int) : prodF f l.reverse = prodF f l := by
  induction l with
  | nil => rfl
  | cons x l ih => rw [List.reverse_cons, prodF_append, ih]; simp [prodF, Int.mul_comm]
theorem addL_comm (a b : List Int) : addL a b = addL b a := by
  unfold addL
  apply List.ext_getElem
  · simp [Nat.min_comm]
  · intro i h1 h2
    simp [Int.add_comm]
/-- What a code is, once opened. -/
def OkB (b : List Int) : Prop := (∀ x ∈ b, 0 ≤ x ∧ x ≤ 255) ∧ b.length ≤ 2000
theorem u8_wf {x : Int} (h : (Lit.int .u8 x).wf = true) : 0 ≤ x ∧ x ≤ 255 := by
  have h2 : IntKind.min .u8 ≤ x ∧ x ≤ IntKind.max .u8 := by simpa [Lit.wf] using h
  have e1 : IntKind.min .u8 = 0 := by decide
  have e2 : IntKind.max .u8 = 255 := by decide
  omega
end Go.Proofs.Ytlakokejoifamaa.Plain
