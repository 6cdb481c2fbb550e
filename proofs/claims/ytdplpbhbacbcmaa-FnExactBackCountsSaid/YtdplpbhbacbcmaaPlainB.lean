/- Plain mathematics of the ways back of all words with given counts: no program in sight. No condition. -/
import Derived.Test.YtdplpbhbacbcmaaPlainW
set_option linter.unusedVariables false
set_option linter.unusedSimpArgs false
namespace Go.Proofs.Ytdplpbhbacbcmaa.Plain
open Go.RowKit Go.Proofs.YtdplpbhbacbcmaaW.PrintWords Go.Proofs.YtdplpbhbacbcmaaW.PrintLast Go.Proofs.YtdplpbhbacbcmaaW.PrintMore
/-- The product of powers. -/
def powL : List Int → List Int → Int
  | x :: u, y :: l => x ^ y.toNat * powL u l
  | _, _ => 1
theorem powL_set : ∀ (u l : List Int) (q : Nat) (hq : q < l.length) (hu : l.length = u.length), 0 ≤ l[q] → powL u (l.set q (l[q] + 1)) = powL u l * (u[q]'(by omega)) := by
  intro u
  induction u with
  | nil => intro l q hq hu; exact absurd hq (by simp at hu; simp [hu])
  | cons x u ih =>
    intro l q hq hu h0
    cases l with
    | nil => simp at hq
    | cons y l =>
      cases q with
      | zero =>
        simp only [List.getElem_cons_zero] at h0
        simp only [List.set_cons_zero, powL, List.getElem_cons_zero]
        rw [show (y + 1).toNat = y.toNat + 1 by omega, Int.pow_succ, Int.mul_assoc, Int.mul_comm x, ← Int.mul_assoc]
      | succ q =>
        simp only [List.getElem_cons_succ] at h0
        simp only [List.set_cons_succ, powL, List.getElem_cons_succ]
        rw [ih l q (by simpa using hq) (by simpa using hu) h0, Int.mul_assoc]
theorem powL_step (u l : List Int) (hu : l.length = u.length) (hl : ∀ x ∈ l, 0 ≤ x) (q : Int) (h0 : 0 ≤ q) (h1 : q < (l.length : Int)) : powL u (cstep l q) = powL u l * rd u q := by
  obtain ⟨n, rfl⟩ := Int.eq_ofNat_of_zero_le h0
  have h2 : n < l.length := by omega
  unfold cstep
  rw [Int.toNat_natCast, rd_nat l n h2, rd_nat u n (by omega)]
  exact powL_set u l n h2 hu (hl _ (List.getElem_mem h2))
theorem powL_fold (u : List Int) : ∀ (ws l : List Int) (B : Int), 0 ≤ B → l.length = u.length → (∀ x ∈ l, 0 ≤ x ∧ x ≤ B) → (∀ q ∈ ws, 0 ≤ q ∧ q < (u.length : Int)) → powL u (ws.foldl cstep l) = powL u l * prodF (rd u) ws := by
  intro ws
  induction ws with
  | nil => intro l B _ _ _ _; simp [prodF]
  | cons q ws ih =>
    intro l B hB hu hl hw
    have hq := hw q List.mem_cons_self
    simp only [List.foldl_cons, prodF]
    rw [ih (cstep l q) (B + 1) (by omega) (by rw [cstep_length]; exact hu) (cstep_bound l q B hB hl) (fun x hx => hw x (List.mem_cons_of_mem _ hx)), powL_step u l hu (fun x hx => (hl x hx).1) q hq.1 (by omega), Int.mul_assoc]
theorem powL_zero : ∀ (u : List Int) (c : Nat), powL u (List.replicate c 0) = 1 := by
  intro u
  induction u with
  | nil => intro c; cases c <;> rfl
  | cons x u ih =>
    intro c
    cases c with
    | zero => rfl
    | succ c => simp [List.replicate_succ, powL, ih]
theorem powL_cnts (u ws : List Int) (hw : ∀ q ∈ ws, 0 ≤ q ∧ q < (u.length : Int)) : powL u (cntsOf u.length ws) = prodF (rd u) ws := by
  unfold cntsOf
  rw [powL_fold u ws _ 0 (by omega) (by simp) (fun x hx => by rw [List.eq_of_mem_replicate hx]; omega) hw, powL_zero, Int.one_mul]
/-- BackCounts' answer. -/
def backCountsP (u l : List Int) : Int := if urnB u = true ∧ cntB u.length l = true then multP l * powL u l else -1
theorem powL_bound : ∀ (u l : List Int), (∀ x ∈ u, 0 ≤ x ∧ x ≤ 40) → (∀ x ∈ l, 0 ≤ x) → 0 ≤ powL u l ∧ powL u l ≤ 40 ^ (tot l).toNat := by
  intro u
  induction u with
  | nil => intro l _ hl; simp only [powL]; have h := (pow_bound 1 40 (by omega) (by omega) (tot l).toNat).2; rw [Int.one_pow] at h; exact ⟨by omega, h⟩
  | cons x u ih =>
    intro l hu hl
    cases l with
    | nil => simp [powL, tot]
    | cons y l =>
      have h1 := ih l (fun z hz => hu z (List.mem_cons_of_mem _ hz)) (fun z hz => hl z (List.mem_cons_of_mem _ hz))
      have h2 := hu x List.mem_cons_self
      have h3 := hl y List.mem_cons_self
      have h4 := tot_nonneg l (fun z hz => hl z (List.mem_cons_of_mem _ hz))
      have h5 := pow_bound x 40 h2.1 h2.2 y.toNat
      simp only [powL, tot]
      rw [show (y + tot l).toNat = y.toNat + (tot l).toNat by omega, Int.pow_add]
      exact mulb h5.1 h5.2 h1.1 h1.2
theorem pow40 (m : Nat) (h : m ≤ 6) : (40 : Int) ^ m ≤ 4096000000 := by
  have : ∀ m, m < 7 → (40 : Int) ^ m ≤ 4096000000 := by decide
  exact this m (by omega)
theorem back_wrap {u l : List Int} (hu : urnB u = true) (h : cntB u.length l = true) (g f : List Int → Int) (hg : ∀ ws, ws.length ≤ 6 → (∀ q ∈ ws, 0 ≤ q ∧ q < (u.length : Int)) → g ws = prodF (rd u) ws) (hf : ∀ ws, f ws = if cntsOf u.length ws = l then g ws else 0) :
    wrap64 (wsum u.length (tot l).toNat f) = multP l * powL u l := by
  obtain ⟨h1, h2, h3, h4, h5, h6⟩ := cntB_known h
  have hl : l.length = u.length := by omega
  have e : wsum u.length (tot l).toNat f = wsum u.length (tot l).toNat (fun ws => powL u l * indW u.length l ws) := by
    refine wsum_congr _ _ fun ws hw hq => ?_
    rw [hf]
    unfold indW
    by_cases hc : cntsOf u.length ws = l
    · rw [if_pos hc, if_pos hc, hg ws (by omega) hq, ← powL_cnts u ws hq, hc, Int.mul_one]
    · rw [if_neg hc, if_neg hc, Int.mul_zero]
  have hm := mult_all h
  rw [hl] at hm
  rw [e, wsum_mul, hm, Int.mul_comm]
  have hp := powL_bound u l (urnB_bounds hu).1 (fun x hx => (h1 x hx).1)
  have h40 := pow40 (tot l).toNat (by omega)
  have hb := (mult_wrap h).2
  have := mulb hb.1 hb.2 hp.1 (Int.le_trans hp.2 h40)
  exact w64 (by omega) (by omega)
end Go.Proofs.Ytdplpbhbacbcmaa.Plain
