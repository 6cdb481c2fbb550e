/- Plain mathematics of the words with given counts: no program in sight. No condition. -/
import Derived.Test.YtdplpbhbacbcmaaPlainC
set_option linter.unusedVariables false
set_option linter.unusedSimpArgs false
namespace Go.Proofs.Ytdplpbhbacbcmaa.Plain
open Go.RowKit Go.Proofs.YtdplpbhbacbcmaaW.PrintWords Go.Proofs.YtdplpbhbacbcmaaW.PrintLast Go.Proofs.YtdplpbhbacbcmaaW.PrintMore
def facP : Nat → Int
  | 0 => 1
  | n + 1 => facP n * ((n : Int) + 1)
def divs (n : Int) : List Int → Int
  | [] => n
  | x :: l => divs (Int.tdiv n (facP x.toNat)) l
def multP (l : List Int) : Int := divs (facP (tot l).toNat) l
def indW (c : Nat) (l : List Int) (ws : List Int) : Int := if cntsOf c ws = l then 1 else 0
set_option maxRecDepth 100000 in
theorem mult1 : ∀ a, a < 7 → wsum 1 a (indW 1 [(a : Int)]) = multP [(a : Int)] := by decide +kernel
set_option maxRecDepth 100000 in
theorem mult2 : ∀ a, a < 7 → ∀ b, b < 7 → a + b ≤ 6 → wsum 2 (a + b) (indW 2 [(a : Int), (b : Int)]) = multP [(a : Int), (b : Int)] := by decide +kernel
set_option maxRecDepth 100000 in
theorem mult3 : ∀ a, a < 7 → ∀ b, b < 7 → ∀ c, c < 7 → a + b + c ≤ 6 → wsum 3 (a + b + c) (indW 3 [(a : Int), (b : Int), (c : Int)]) = multP [(a : Int), (b : Int), (c : Int)] := by decide +kernel
theorem cntB_known {c : Int} {l : List Int} (h : cntB c l = true) : (∀ x ∈ l, 0 ≤ x ∧ x ≤ 6) ∧ 1 ≤ l.length ∧ l.length ≤ 3 ∧ (l.length : Int) = c ∧ 0 ≤ tot l ∧ tot l ≤ 6 := by
  simp only [cntB, Bool.and_eq_true, decide_eq_true_eq, colB] at h
  obtain ⟨h1, ⟨h2, h3⟩, h4⟩ := h
  obtain ⟨h5, h6⟩ := (cntL_tot l 6).1 h1
  have h7 := tot_nonneg l h5
  have h8 : tot l ≤ 6 := by
    rcases h6 with rfl | h6
    · simp [tot]
    · exact h6
  exact ⟨fun x hx => ⟨h5 x hx, by have := tot_le_of_mem l h5 x hx; omega⟩, by omega, by omega, h4, h7, h8⟩
theorem mult_all {c : Int} {l : List Int} (h : cntB c l = true) : wsum l.length (tot l).toNat (indW l.length l) = multP l := by
  obtain ⟨h1, h2, h3, _, h5, h6⟩ := cntB_known h
  rcases len13 h2 h3 with ⟨a, rfl⟩ | ⟨a, b, rfl⟩ | ⟨a, b, d, rfl⟩
  · have ha := h1 a (by simp)
    obtain ⟨a, rfl⟩ := Int.eq_ofNat_of_zero_le ha.1
    have e : (tot [(a : Int)]).toNat = a := by simp [tot]
    rw [e]
    exact mult1 a (by omega)
  · have ha := h1 a (by simp); have hb := h1 b (by simp)
    obtain ⟨a, rfl⟩ := Int.eq_ofNat_of_zero_le ha.1
    obtain ⟨b, rfl⟩ := Int.eq_ofNat_of_zero_le hb.1
    simp only [tot] at h6
    have e : (tot [(a : Int), (b : Int)]).toNat = a + b := by simp only [tot]; omega
    rw [e]
    exact mult2 a (by omega) b (by omega) (by omega)
  · have ha := h1 a (by simp); have hb := h1 b (by simp); have hd := h1 d (by simp)
    obtain ⟨a, rfl⟩ := Int.eq_ofNat_of_zero_le ha.1
    obtain ⟨b, rfl⟩ := Int.eq_ofNat_of_zero_le hb.1
    obtain ⟨d, rfl⟩ := Int.eq_ofNat_of_zero_le hd.1
    simp only [tot] at h6
    have e : (tot [(a : Int), (b : Int), (d : Int)]).toNat = a + b + d := by simp only [tot]; omega
    rw [e]
    exact mult3 a (by omega) b (by omega) d (by omega) (by omega)
/-- WordsWith's answer. -/
def wordsWithP (c : Int) (l : List Int) : Int := if cntB c l = true then multP l else -1
theorem mult_wrap {c : Int} {l : List Int} (h : cntB c l = true) : wrap64 (wsum l.length (tot l).toNat (indW l.length l)) = multP l ∧ 0 ≤ multP l ∧ multP l ≤ 729 := by
  obtain ⟨h1, h2, h3, _, h5, h6⟩ := cntB_known h
  have hb := wsum_small l.length (tot l).toNat h3 (by omega) 1 (by omega) (indW l.length l) (fun w _ _ => by unfold indW; split <;> omega)
  rw [mult_all h] at hb ⊢
  exact ⟨w64 (by omega) (by omega), by omega, by omega⟩
theorem fac_bound : ∀ n, n < 7 → 1 ≤ facP n ∧ facP n ≤ 720 := by decide
end Go.Proofs.Ytdplpbhbacbcmaa.Plain
