/- Plain mathematics of the laws on words with given counts: no program in sight. No condition. -/
import Derived.Test.YtdplpbhbacbcmaaPlainW
set_option linter.unusedVariables false
set_option linter.unusedSimpArgs false
namespace Go.Proofs.Ytdplpbhbacbcmaa.Plain
open Go.RowKit Go.Proofs.YtdplpbhbacbcmaaW.PrintWords Go.Proofs.YtdplpbhbacbcmaaW.PrintLast Go.Proofs.YtdplpbhbacbcmaaW.PrintMore
theorem pos1 : ∀ a : Nat, a < 7 → 1 ≤ multP [(a : Int)] := by decide +kernel
theorem pos2 : ∀ a : Nat, a < 7 → ∀ b : Nat, b < 7 → a + b ≤ 6 → 1 ≤ multP [(a : Int), (b : Int)] := by decide +kernel
theorem pos3 : ∀ a : Nat, a < 7 → ∀ b : Nat, b < 7 → ∀ c : Nat, c < 7 → a + b + c ≤ 6 → 1 ≤ multP [(a : Int), (b : Int), (c : Int)] := by decide +kernel
theorem mult_pos {c : Int} {l : List Int} (h : cntB c l = true) : 1 ≤ multP l := by
  obtain ⟨h1, h2, h3, _, h5, h6⟩ := cntB_known h
  rcases len13 h2 h3 with ⟨a, rfl⟩ | ⟨a, b, rfl⟩ | ⟨a, b, d, rfl⟩
  · have ha := h1 a (by simp)
    obtain ⟨a, rfl⟩ := Int.eq_ofNat_of_zero_le ha.1
    exact pos1 a (by omega)
  · have ha := h1 a (by simp); have hb := h1 b (by simp)
    obtain ⟨a, rfl⟩ := Int.eq_ofNat_of_zero_le ha.1
    obtain ⟨b, rfl⟩ := Int.eq_ofNat_of_zero_le hb.1
    simp only [tot] at h6
    exact pos2 a (by omega) b (by omega) (by omega)
  · have ha := h1 a (by simp); have hb := h1 b (by simp); have hd := h1 d (by simp)
    obtain ⟨a, rfl⟩ := Int.eq_ofNat_of_zero_le ha.1
    obtain ⟨b, rfl⟩ := Int.eq_ofNat_of_zero_le hb.1
    obtain ⟨d, rfl⟩ := Int.eq_ofNat_of_zero_le hd.1
    simp only [tot] at h6
    exact pos3 a (by omega) b (by omega) d (by omega) (by omega)
theorem tot_set : ∀ (l : List Int) (q : Nat) (hq : q < l.length) (y : Int), tot (l.set q y) = tot l - l[q] + y := by
  intro l
  induction l with
  | nil => intro q hq; simp at hq
  | cons x l ih =>
    intro q hq y
    cases q with
    | zero => simp [tot]; omega
    | succ q =>
      simp only [List.set_cons_succ, tot, List.getElem_cons_succ]
      rw [ih q (by simpa using hq)]
      omega
theorem tot_cstep (l : List Int) (q : Int) (h0 : 0 ≤ q) (h1 : q < (l.length : Int)) : tot (cstep l q) = tot l + 1 := by
  obtain ⟨n, rfl⟩ := Int.eq_ofNat_of_zero_le h0
  unfold cstep
  rw [Int.toNat_natCast, tot_set l n (by omega), rd_nat l n (by omega)]
  omega
theorem tot_fold : ∀ (ws l : List Int), (∀ q ∈ ws, 0 ≤ q ∧ q < (l.length : Int)) → tot (ws.foldl cstep l) = tot l + ws.length := by
  intro ws
  induction ws with
  | nil => intro l _; simp
  | cons q ws ih =>
    intro l h
    have hq := h q List.mem_cons_self
    rw [List.foldl_cons, ih (cstep l q) (fun x hx => by rw [cstep_length]; exact h x (List.mem_cons_of_mem _ hx)), tot_cstep l q hq.1 hq.2, List.length_cons]
    omega
theorem tot_rep (c : Nat) : tot (List.replicate c 0) = 0 := by
  induction c with
  | zero => rfl
  | succ c ih => rw [List.replicate_succ]; simp [tot, ih]
theorem tot_cnts (c : Nat) (ws : List Int) (h : ∀ q ∈ ws, 0 ≤ q ∧ q < (c : Int)) : tot (cntsOf c ws) = ws.length := by
  unfold cntsOf
  rw [tot_fold ws _ (by simpa using h), tot_rep]
  omega
theorem cnts_cntB {c : Int} {w : List Int} (h : wordB c w = true) : cntB c (cntsOf c.toNat w) = true := by
  obtain ⟨h1, h2, h3, h4⟩ := wordB_bounds h
  have hl := cntsOf_length c.toNat w
  have hb := cntsOf_bound c.toNat w
  have ht := tot_cnts c.toNat w (fun q hq => by have := h1 q hq; omega)
  simp only [cntB, Bool.and_eq_true, decide_eq_true_eq, colB]
  exact ⟨(cntL_tot _ 6).2 ⟨fun x hx => (hb x hx).1, .inr (by omega)⟩, ⟨h2, h3⟩, by omega⟩
end Go.Proofs.Ytdplpbhbacbcmaa.Plain
