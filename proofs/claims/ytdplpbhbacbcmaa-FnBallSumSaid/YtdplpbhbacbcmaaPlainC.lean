/- Plain mathematics of the sums over all words: no program in sight. No condition. -/
import Derived.Test.YtdplpbhbacbcmaaPlain
set_option linter.unusedVariables false
set_option linter.unusedSimpArgs false
namespace Go.Proofs.Ytdplpbhbacbcmaa.Plain
open Go.RowKit Go.Proofs.YtdplpbhbacbcmaaW.PrintWords Go.Proofs.YtdplpbhbacbcmaaW.PrintLast Go.Proofs.YtdplpbhbacbcmaaW.PrintMore
theorem pow58 (m : Nat) (h : m ≤ 6) : (58 : Int) ^ m ≤ 38068692544 := by
  have : ∀ m, m < 7 → (58 : Int) ^ m ≤ 38068692544 := by decide
  exact this m (by omega)
theorem pow3 (c m : Nat) (hc : c ≤ 3) (h : m ≤ 6) : 0 ≤ (c : Int) ^ m ∧ (c : Int) ^ m ≤ 729 := by
  have h3 : ∀ m, m < 7 → (3 : Int) ^ m ≤ 729 := by decide
  have := pow_bound (c : Int) 3 (by omega) (by omega) m
  have := h3 m (by omega)
  omega
theorem wsum_small (c m : Nat) (hc : c ≤ 3) (hm : m ≤ 6) (B : Int) (hB : 0 ≤ B) (F : List Int → Int) (h : ∀ w, w.length = m → (∀ q ∈ w, 0 ≤ q ∧ q < (c : Int)) → 0 ≤ F w ∧ F w ≤ B) : 0 ≤ wsum c m F ∧ wsum c m F ≤ 729 * B := by
  have h1 := wsum_bound c B hB m F h
  have h2 := pow3 c m hc hm
  exact ⟨h1.1, Int.le_trans h1.2 (Int.mul_le_mul_of_nonneg_right h2.2 hB)⟩
theorem ways58 {B : Int} {c : Nat} {r : List (List Int)} (hr : RuleK c r) (w : List Int) (n : Nat) (u : List Int) (h : Near B c n u) (hl : n + w.length ≤ 6) (hw : ∀ q ∈ w, 0 ≤ q ∧ q < (c : Int)) : 0 ≤ waysL r u w ∧ waysL r u w ≤ 38068692544 := by
  have := waysL_bound hr w n u h hl hw
  exact ⟨this.1, Int.le_trans this.2 (pow58 _ (by omega))⟩
def ballF (r : List (List Int)) (q : Int) (u w : List Int) : Int := waysL r u w * rd (afterL r u w) q
theorem balls58 {B : Int} {c : Nat} {r : List (List Int)} (hr : RuleK c r) (q : Int) (h0 : 0 ≤ q) (h1 : q < (c : Int)) (w : List Int) (n : Nat) (u : List Int) (h : Near B c n u) (hu : ∀ i : Nat, i < c → 0 ≤ rd u i) (hl : n + w.length ≤ 6) (hw : ∀ q ∈ w, 0 ≤ q ∧ q < (c : Int)) : 0 ≤ ballF r q u w ∧ ballF r q u w ≤ 38068692544 * 58 := by
  unfold ballF
  have hb := ways58 hr w n u h hl hw
  by_cases hz : waysL r u w = 0
  · rw [hz]; omega
  · have hp := pos_after hr w u h.1 hu hw hz q.toNat (by omega)
    have hn := near_rd (near_after hr w n u h hw) q h0 h1
    rw [Int.toNat_of_nonneg h0] at hp
    exact mulb hb.1 hb.2 hp (by omega)
theorem wsum_balls (c : Nat) (r : List (List Int)) (q : Int) (u : List Int) (m : Nat) : wsum c (m + 1) (ballF r q u) = sumN (fun k => mx 0 (rd u (k : Int)) * wsum c m (ballF r q (addL u (rowR r (k : Int))))) c := by
  simp only [wsum]
  refine sumN_congr _ fun k _ => ?_
  have : (fun w => ballF r q u ((k : Int) :: w)) = fun w => mx 0 (rd u (k : Int)) * ballF r q (addL u (rowR r (k : Int))) w := by
    funext w
    exact Int.mul_assoc _ _ _
  rw [this, wsum_mul]
/-- RuleAll's answer. -/
def ruleAllP (u : List Int) (r : List (List Int)) (m : Int) : Int := if (startB u && ruleB u.length r) = true ∧ 0 ≤ m ∧ m ≤ 6 then wsum u.length m.toNat (waysL r u) else -1
/-- BallSum's answer. -/
def ballSumP (u : List Int) (r : List (List Int)) (m q : Int) : Int := if (startB u && ruleB u.length r) = true ∧ (0 ≤ m ∧ m ≤ 6) ∧ 0 ≤ q ∧ q < u.length then wsum u.length m.toNat (ballF r q u) else -1
theorem asked_known {u : List Int} {r : List (List Int)} (h : (startB u && ruleB u.length r) = true) : RuleK u.length r ∧ Near 10 u.length 0 u ∧ 1 ≤ u.length ∧ u.length ≤ 3 ∧ (∀ i : Nat, i < u.length → 0 ≤ rd u i) := by
  obtain ⟨h1, h2⟩ := Bool.and_eq_true_iff.1 h
  obtain ⟨n1, n2, n3, n4, _⟩ := near_start h1
  have hk := (ruleB_known h2).1
  rw [Int.toNat_natCast] at hk
  exact ⟨hk, n1, n2, n3, fun i hi => (n4 _ (rd_mem u i hi)).1⟩
theorem ruleAll_wrap {u : List Int} {r : List (List Int)} (h : (startB u && ruleB u.length r) = true) (m : Nat) (hm : m ≤ 6) : wrap64 (wsum u.length m (waysL r u)) = wsum u.length m (waysL r u) := by
  obtain ⟨hk, n1, n2, n3, _⟩ := asked_known h
  have := wsum_small u.length m n3 hm 38068692544 (by omega) (waysL r u) (fun w hl hw => ways58 hk w 0 u n1 (by omega) hw)
  exact w64 (by omega) (by omega)
theorem ballSum_wrap {u : List Int} {r : List (List Int)} (h : (startB u && ruleB u.length r) = true) (m : Nat) (hm : m ≤ 6) (q : Int) (h0 : 0 ≤ q) (h1 : q < u.length) (f : List Int → Int) (hf : ∀ ws, f ws = if 0 < waysL r u ws then IntKind.i64.wrap (waysL r u ws * rd (afterL r u ws) q) else 0) :
    wrap64 (wsum u.length m f) = wsum u.length m (ballF r q u) := by
  obtain ⟨hk, n1, n2, n3, n4⟩ := asked_known h
  have hb := fun w (hl : w.length = m) hw => balls58 hk q h0 h1 w 0 u n1 n4 (by omega) hw
  have e : wsum u.length m f = wsum u.length m (ballF r q u) := by
    refine wsum_congr _ m fun w hl hw => ?_
    have h2 := hb w hl hw
    rw [hf]
    by_cases hz : 0 < waysL r u w
    · rw [if_pos hz]
      unfold ballF at h2 ⊢
      rw [IntKind.wrap_i64]
      omega
    · rw [if_neg hz]
      have h3 := ways58 hk w 0 u n1 (by omega) hw
      unfold ballF
      rw [show waysL r u w = 0 by omega]
      omega
  rw [e]
  have := wsum_small u.length m n3 hm (38068692544 * 58) (by omega) (ballF r q u) hb
  exact w64 (by omega) (by omega)
end Go.Proofs.Ytdplpbhbacbcmaa.Plain
