/- Plain mathematics on whole numbers and lists: what the printed functions are compared with. No program stands in this text. No condition. -/
import Derived.Test.YtfodnffdccfleaaWWords
import Derived.Test.YtfodnffdccfleaaWMore
import Derived.Test.YtfodnffdccfleaaWSized
set_option linter.unusedVariables false
set_option linter.unusedSimpArgs false
/- The printed rows name this lemma of the printed words by the shorter name. -/
namespace Go.Proofs.Ytfodnffdccfleaa.PrintWords
open Go.ChangeShapes Go.WideShapes
theorem sized_ints {H : Type} {enc : TypeId × Value → H} {P : Program} {W : World} {base : Nat} {spare : Nat → Bool} {held : Bool} {t e : TypeId} {k : IntKind} {a : Option Addr} {len cap : Nat}
    {d : DataW H} {ps : List MemPlace} {ts : List TypeId} {ds : List (DataW H)} {j : Nat} (hsz : (DataW.weightsEach P ts ds).all (· ≤ reachBytes) = true)
    (ht : ts[j]? = some t) (hd : ds[j]? = some d) (hu : P.underlying t = some (.slice e)) (he : P.underlying e = some (.int k)) (hc : P.cellsOf e = 1) {B : Nat} (hB : P.bytesOf e = B)
    (h : DataW.Trod enc P W base spare held t (.slice a len cap) d ps) : len * B ≤ 140737488351232 :=
  Go.Proofs.YtfodnffdccfleaaW.PrintWords.sized_ints hsz ht hd hu he hc hB h
end Go.Proofs.Ytfodnffdccfleaa.PrintWords
namespace Go.Proofs.Ytfodnffdccfleaa.Plain
open Go.RowKit Go.Proofs.YtfodnffdccfleaaW.PrintWords Go.Proofs.YtfodnffdccfleaaW.PrintLast Go.Proofs.YtfodnffdccfleaaW.PrintMore

theorem w64 {x : Int} (h1 : -9223372036854775808 ≤ x) (h2 : x ≤ 9223372036854775807) : wrap64 x = x := by unfold wrap64; omega
theorem w64n (i : Nat) (h : i ≤ 1000000000000) : wrap64 ((i : Int) + 1) = ((i + 1 : Nat) : Int) := by unfold wrap64; omega
theorem ev_pos {α : Type} {c : Prop} [Decidable c] {f g : Nat → Option α} {r : α} (h : c) (e : Ev f r) : Ev (fun k => if c then f k else g k) r :=
  Ev.congr (fun k => if_pos h) e
theorem ev_neg {α : Type} {c : Prop} [Decidable c] {f g : Nat → Option α} {r : α} (h : ¬ c) (e : Ev g r) : Ev (fun k => if c then f k else g k) r :=
  Ev.congr (fun k => if_neg h) e
theorem ev_eq {α : Type} {f : Nat → Option α} {r r' : α} (e : Ev f r') (h : r' = r) : Ev f r := h ▸ e
theorem ev_at {α : Type} {f : Nat → Option α} {r : α} (n : Nat) (h : ∀ k, f (k + n) = some r) : Ev f r :=
  ⟨n, fun k hk => by obtain ⟨m, rfl⟩ : ∃ m, k = m + n := ⟨k - n, by omega⟩; exact h m⟩
theorem rd_nat (l : List Int) (i : Nat) (h : i < l.length) : rd l (i : Int) = l[i] := by simp [rd, h]
theorem drop_rd (l : List Int) (i : Nat) (h : i < l.length) : l.drop i = rd l (i : Int) :: l.drop (i + 1) := by
  rw [rd_nat l i h]; exact List.drop_eq_getElem_cons h
theorem rd_mem (l : List Int) (i : Nat) (h : i < l.length) : rd l (i : Int) ∈ l := by rw [rd_nat l i h]; exact List.getElem_mem h
theorem take_rd (l : List Int) (i : Nat) (h : i < l.length) : l.take (i + 1) = l.take i ++ [rd l (i : Int)] := by
  rw [rd_nat l i h]; exact List.take_succ_eq_append_getElem h

/-! ### urns, words, rows of counts -/
def inB (x lo hi : Int) : Bool := decide (lo ≤ x ∧ x ≤ hi)
def urnE (x : Int) : Bool := decide (0 ≤ x ∧ x ≤ 40)
def colB (c : Int) : Bool := decide (1 ≤ c ∧ c ≤ 3)
def urnB (l : List Int) : Bool := l.all urnE && colB l.length
def startB (l : List Int) : Bool := l.all (fun x => decide (x ≤ 10)) && urnB l
def wordB (c : Int) (l : List Int) : Bool := l.all (fun x => decide (0 ≤ x ∧ x < c)) && (colB c && decide ((l.length : Int) ≤ 6))
def cntL : Int → List Int → Bool
  | _, [] => true
  | n, x :: l => decide (0 ≤ x ∧ x ≤ n) && cntL (n - x) l
def tot : List Int → Int
  | [] => 0
  | x :: l => x + tot l
def cntB (c : Int) (l : List Int) : Bool := cntL 6 l && (colB c && decide ((l.length : Int) = c))
theorem cntL_tot (l : List Int) : ∀ n : Int, cntL n l = true ↔ ((∀ x ∈ l, 0 ≤ x) ∧ (l = [] ∨ tot l ≤ n)) := by
  induction l with
  | nil => intro n; simp [cntL]
  | cons x l ih =>
    intro n
    simp only [cntL, Bool.and_eq_true, decide_eq_true_eq, ih, tot, List.mem_cons, forall_eq_or_imp, reduceCtorEq, false_or]
    constructor
    · rintro ⟨⟨h0, h1⟩, h2, h3⟩
      refine ⟨⟨h0, h2⟩, ?_⟩
      rcases h3 with rfl | h3
      · simp [tot]; exact h1
      · omega
    · rintro ⟨⟨h0, h1⟩, h2⟩
      have h3 : 0 ≤ tot l := by
        clear h2 ih
        induction l with
        | nil => simp [tot]
        | cons y l ihl =>
          have := ihl (fun z hz => h1 z (List.mem_cons_of_mem _ hz)); have := h1 y (List.mem_cons_self)
          simp only [tot]; omega
      exact ⟨⟨h0, by omega⟩, h1, .inr (by omega)⟩
theorem tot_nonneg (l : List Int) (h : ∀ x ∈ l, 0 ≤ x) : 0 ≤ tot l := by
  induction l with
  | nil => simp [tot]
  | cons y l ih =>
    have := ih (fun z hz => h z (List.mem_cons_of_mem _ hz)); have := h y (List.mem_cons_self)
    simp only [tot]; omega
theorem tot_le_of_mem (l : List Int) (h : ∀ x ∈ l, 0 ≤ x) : ∀ x ∈ l, x ≤ tot l := by
  induction l with
  | nil => simp
  | cons y l ih =>
    have h1 := tot_nonneg l (fun z hz => h z (List.mem_cons_of_mem _ hz)); have h2 := h y (List.mem_cons_self)
    intro x hx
    simp only [tot]
    rcases List.mem_cons.1 hx with rfl | hx
    · omega
    · have := ih (fun z hz => h z (List.mem_cons_of_mem _ hz)) x hx; omega
theorem tot_append (a b : List Int) : tot (a ++ b) = tot a + tot b := by
  induction a with
  | nil => simp [tot]
  | cons x a ih => simp only [List.cons_append, tot, ih]; omega
theorem tot_bound (l : List Int) (B : Int) (hB : 0 ≤ B) (h : ∀ x ∈ l, 0 ≤ x ∧ x ≤ B) : 0 ≤ tot l ∧ tot l ≤ l.length * B := by
  induction l with
  | nil => simp [tot]
  | cons x l ih =>
    have h1 := ih (fun y hy => h y (List.mem_cons_of_mem _ hy)); have h2 := h x (List.mem_cons_self)
    have e : ((x :: l).length : Int) * B = l.length * B + B := by rw [List.length_cons, Int.natCast_add, Int.add_mul]; simp
    simp only [tot]; rw [e]; omega
/-- How the reference tells a row of counts. -/
def cntS (c : Int) (l : List Int) : Bool := l.all (fun x => inB x 0 6) && (colB c && (decide ((l.length : Int) = c) && decide (tot l ≤ 6)))
theorem cntS_eq (c : Int) (l : List Int) : cntS c l = cntB c l := by
  rw [Bool.eq_iff_iff]
  simp only [cntS, cntB, inB, Bool.and_eq_true, List.all_eq_true, decide_eq_true_eq, cntL_tot]
  constructor
  · rintro ⟨h1, h2, h3, h4⟩; exact ⟨⟨fun x hx => (h1 x hx).1, .inr h4⟩, h2, h3⟩
  · rintro ⟨⟨h1, h2⟩, h3, h4⟩
    have h5 : tot l ≤ 6 := by
      rcases h2 with rfl | h2
      · simp [tot]
      · exact h2
    exact ⟨fun x hx => ⟨h1 x hx, Int.le_trans (tot_le_of_mem l h1 x hx) h5⟩, h3, h4, h5⟩
theorem urnB_bounds {l : List Int} (h : urnB l = true) : (∀ x ∈ l, 0 ≤ x ∧ x ≤ 40) ∧ 1 ≤ l.length ∧ l.length ≤ 3 := by
  simp only [urnB, urnE, colB, Bool.and_eq_true, List.all_eq_true, decide_eq_true_eq] at h
  exact ⟨h.1, by omega, by omega⟩
theorem len13 {l : List Int} (h1 : 1 ≤ l.length) (h2 : l.length ≤ 3) : (∃ a, l = [a]) ∨ (∃ a b, l = [a, b]) ∨ ∃ a b c, l = [a, b, c] := by
  match l, h1, h2 with
  | [a], _, _ => exact .inl ⟨a, rfl⟩
  | [a, b], _, _ => exact .inr (.inl ⟨a, b, rfl⟩)
  | [a, b, c], _, _ => exact .inr (.inr ⟨a, b, c, rfl⟩)
  | _ :: _ :: _ :: _ :: _, _, h => simp at h
theorem urn_cases {l : List Int} (h : urnB l = true) : (∃ a, l = [a] ∧ 0 ≤ a ∧ a ≤ 40) ∨ (∃ a b, l = [a, b] ∧ 0 ≤ a ∧ a ≤ 40 ∧ 0 ≤ b ∧ b ≤ 40) ∨ ∃ a b c, l = [a, b, c] ∧ 0 ≤ a ∧ a ≤ 40 ∧ 0 ≤ b ∧ b ≤ 40 ∧ 0 ≤ c ∧ c ≤ 40 := by
  obtain ⟨h1, h2, h3⟩ := urnB_bounds h
  rcases len13 h2 h3 with ⟨a, rfl⟩ | ⟨a, b, rfl⟩ | ⟨a, b, c, rfl⟩ <;> simp at h1
  · exact .inl ⟨a, rfl, h1⟩
  · exact .inr (.inl ⟨a, b, rfl, h1.1.1, h1.1.2, h1.2⟩)
  · exact .inr (.inr ⟨a, b, c, rfl, h1.1.1, h1.1.2, h1.2.1.1, h1.2.1.2, h1.2.2⟩)
theorem mulb {a b A B : Int} (h0 : 0 ≤ a) (h1 : a ≤ A) (h2 : 0 ≤ b) (h3 : b ≤ B) : 0 ≤ a * b ∧ a * b ≤ A * B :=
  ⟨Int.mul_nonneg h0 h2, Int.mul_le_mul h1 h3 h2 (by omega)⟩
def sumF (f : Int → Int) : List Int → Int
  | [] => 0
  | x :: l => f x + sumF f l
theorem sumF_append (f : Int → Int) (a b : List Int) : sumF f (a ++ b) = sumF f a + sumF f b := by
  induction a with
  | nil => simp [sumF]
  | cons x a ih => simp only [List.cons_append, sumF, ih]; omega
theorem sumF_bound (f : Int → Int) (B : Int) (hB : 0 ≤ B) (l : List Int) (h : ∀ x ∈ l, 0 ≤ f x ∧ f x ≤ B) : 0 ≤ sumF f l ∧ sumF f l ≤ l.length * B := by
  induction l with
  | nil => simp [sumF]
  | cons x l ih =>
    have h1 := ih (fun y hy => h y (List.mem_cons_of_mem _ hy)); have h2 := h x (List.mem_cons_self)
    have e : ((x :: l).length : Int) * B = l.length * B + B := by rw [List.length_cons, Int.natCast_add, Int.add_mul]; simp
    simp only [sumF]; rw [e]; omega
theorem sumF_congr {f g : Int → Int} {l : List Int} (h : ∀ x ∈ l, f x = g x) : sumF f l = sumF g l := by
  induction l with
  | nil => rfl
  | cons x l ih => simp only [sumF]; rw [h x List.mem_cons_self, ih (fun y hy => h y (List.mem_cons_of_mem _ hy))]
theorem tot_sumF (l : List Int) : tot l = sumF (fun x => x) l := by
  induction l with
  | nil => rfl
  | cons x l ih => simp only [tot, sumF, ih]
theorem mx_l (a b : Int) (h : b ≤ a) : mx a b = a := by unfold mx; rw [if_neg (by omega)]
theorem mx_r (a b : Int) (h : a ≤ b) : mx a b = b := by unfold mx; split <;> omega
theorem mx_comm (a b : Int) : mx a b = mx b a := by unfold mx; split <;> split <;> omega
theorem mx_bound (a B : Int) (h : a ≤ B) (hB : 0 ≤ B) : 0 ≤ mx a 0 ∧ mx a 0 ≤ B := by unfold mx; split <;> omega
/-- Rising products. -/
def rising (s st : Int) : Nat → Int
  | 0 => 1
  | n + 1 => rising s st n * mx (s + n * st) 0
theorem rising_bound (s st : Int) (hs : 0 ≤ s) (hs2 : s ≤ 40) (h1 : -1 ≤ st) (h2 : st ≤ 3) : ∀ n, n ≤ 6 → 0 ≤ rising s st n ∧ rising s st n ≤ 60 ^ n := by
  intro n
  induction n with
  | zero => intro _; simp [rising]
  | succ n ih =>
    intro hn
    obtain ⟨ha, hb⟩ := ih (by omega)
    have hc : s + n * st ≤ 60 := by
      have h3 : (n : Int) * st ≤ 5 * 3 := by
        have h5 : (n : Int) * st ≤ (n : Int) * 3 := Int.mul_le_mul_of_nonneg_left h2 (by omega)
        omega
      omega
    obtain ⟨hm1, hm2⟩ := mx_bound (s + n * st) 60 hc (by omega)
    simp only [rising]
    have := mulb ha hb hm1 hm2
    rw [Int.pow_succ]
    exact this
end Go.Proofs.Ytfodnffdccfleaa.Plain
