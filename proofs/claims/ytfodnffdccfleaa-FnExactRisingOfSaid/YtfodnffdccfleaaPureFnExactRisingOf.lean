/- The law FnExactRisingOf: for every input the printed function of the law answers true. No condition. -/
import Derived.Test.YtfodnffdccfleaaPFnExactRisingOfx1
import Derived.Test.YtfodnffdccfleaaPlain
set_option linter.unusedVariables false
set_option linter.unusedSimpArgs false
namespace Go.Proofs.Ytfodnffdccfleaa.Pure
open Go.RowKit Go.Proofs.Ytfodnffdccfleaa.PFnExactRisingOf Go.Proofs.YtfodnffdccfleaaW.PrintWords Go.Proofs.YtfodnffdccfleaaW.PrintLast Go.Proofs.YtfodnffdccfleaaW.PrintMore Go.Proofs.Ytfodnffdccfleaa.Plain

theorem l1In_f (x a b : Int) : spec_l1In.f x a b = some (inB x a b) := by
  unfold spec_l1In.f inB
  by_cases h : x ≥ a
  · rw [if_pos h]; congr 1; simp [h]
  · rw [if_neg h]; congr 1; simp; omega

theorem rising_step (s st : Int) (hs : 0 ≤ s) (hs2 : s ≤ 40) (h1 : -1 ≤ st) (h2 : st ≤ 3) (i : Nat) (hi : i < 6) :
    wrap64 ((i : Int) * st) = i * st ∧ wrap64 (s + i * st) = s + i * st ∧ wrap64 (rising s st i * mx (s + i * st) 0) = rising s st (i + 1) := by
  have h3 : (i : Int) * st ≤ (i : Int) * 3 := Int.mul_le_mul_of_nonneg_left h2 (by omega)
  have h4 : (i : Int) * (-1) ≤ (i : Int) * st := Int.mul_le_mul_of_nonneg_left h1 (by omega)
  obtain ⟨ha, hb⟩ := rising_bound s st hs hs2 h1 h2 (i + 1) (by omega)
  have h5 : (60 : Int) ^ (i + 1) ≤ 60 ^ 6 := by
    have : i = 0 ∨ i = 1 ∨ i = 2 ∨ i = 3 ∨ i = 4 ∨ i = 5 := by omega
    rcases this with rfl | rfl | rfl | rfl | rfl | rfl <;> decide
  have h6 : rising s st (i + 1) ≤ 46656000000 := Int.le_trans hb h5
  refine ⟨w64 (by omega) (by omega), w64 (by omega) (by omega), ?_⟩
  show wrap64 (rising s st (i + 1)) = _
  exact w64 (by omega) (by omega)
theorem l5Rising_loop (s st : Int) (n : Nat) (hs : 0 ≤ s) (hs2 : s ≤ 40) (h1 : -1 ≤ st) (h2 : st ≤ 3) (hn : n ≤ 6) (d : Nat) : ∀ i : Nat, i + d = n → Ev (fun k => spec_l5Rising.l0 k s (n : Int) st (rising s st i) (i : Int)) (rising s st n) := by
  induction d with
  | zero =>
    intro i hi
    refine Ev.step (fun _ => rfl) ?_
    refine ev_neg (by omega) (ev_eq (Ev.now _) ?_)
    rw [show i = n by omega]
  | succ d ih =>
    intro i hi
    refine Ev.step (fun _ => rfl) ?_
    refine ev_pos (by omega) ?_
    obtain ⟨e1, e2, e3⟩ := rising_step s st hs hs2 h1 h2 i (by omega)
    rw [w64n i (by omega), e1, e2, e3]
    exact ih (i + 1) (by omega)
theorem l5Rising_ev (s st : Int) (n : Int) (hs : 0 ≤ s) (hs2 : s ≤ 40) (h1 : -1 ≤ st) (h2 : st ≤ 3) (hn0 : 0 ≤ n) (hn : n ≤ 6) : Ev (fun k => spec_l5Rising.f k s n st) (rising s st n.toNat) := by
  obtain ⟨m, rfl⟩ := Int.eq_ofNat_of_zero_le hn0
  unfold spec_l5Rising.f
  exact l5Rising_loop s st m hs hs2 h1 h2 (by omega) m 0 (by omega)

theorem specRisingOf_ev (s n st : Int) : Ev (fun k => spec_RisingOf.f k s n st) (if 0 ≤ s ∧ s ≤ 40 ∧ 0 ≤ n ∧ n ≤ 6 ∧ -1 ≤ st ∧ st ≤ 3 then rising s st n.toNat else -1) := by
  unfold spec_RisingOf.f
  simp only [l1In_f, Option.bind_some, inB, decide_eq_true_eq]
  by_cases h1 : 0 ≤ s ∧ s ≤ 40
  · refine ev_pos h1 ?_
    by_cases h2 : 0 ≤ n ∧ n ≤ 6
    · refine ev_pos h2 ?_
      by_cases h3 : -1 ≤ st ∧ st ≤ 3
      · refine ev_pos h3 ?_
        rw [if_pos (by omega)]
        exact Ev.bind (l5Rising_ev s st n h1.1 h1.2 h3.1 h3.2 h2.1 h2.2) (Ev.now _)
      · refine ev_neg h3 ?_
        rw [if_neg (by omega)]; exact Ev.now _
    · refine ev_neg h2 ?_
      rw [if_neg (by omega)]; exact Ev.now _
  · refine ev_neg h1 ?_
    rw [if_neg (by omega)]; exact Ev.now _

theorem implRisingOf_loop (s st : Int) (n : Nat) (hs : 0 ≤ s) (hs2 : s ≤ 40) (h1 : -1 ≤ st) (h2 : st ≤ 3) (hn : n ≤ 6) (d : Nat) : ∀ i : Nat, i + d = n → Ev (fun k => impl_RisingOf.l0 k s st (rising s st i) (n : Int) (i : Int)) (rising s st n) := by
  induction d with
  | zero =>
    intro i hi
    refine Ev.step (fun _ => rfl) ?_
    refine ev_neg (by omega) (ev_eq (Ev.now _) ?_)
    rw [show i = n by omega]
  | succ d ih =>
    intro i hi
    refine Ev.step (fun _ => rfl) ?_
    refine ev_pos (by omega) ?_
    obtain ⟨e1, e2, e3⟩ := rising_step s st hs hs2 h1 h2 i (by omega)
    rw [w64n i (by omega), e1, e2, mx_comm, e3]
    exact ih (i + 1) (by omega)
theorem implRisingOf_j (s n st : Int) (b : Bool) (h : b = false → 0 ≤ s ∧ s ≤ 40 ∧ 0 ≤ n ∧ n ≤ 6 ∧ -1 ≤ st ∧ st ≤ 3) : Ev (fun k => impl_RisingOf.j0 k s n st b) (if b = true then -1 else rising s st n.toNat) := by
  refine Ev.step (fun _ => rfl) ?_
  cases b with
  | true => exact Ev.now _
  | false =>
    obtain ⟨a1, a2, a3, a4, a5, a6⟩ := h rfl
    obtain ⟨m, rfl⟩ := Int.eq_ofNat_of_zero_le a3
    exact implRisingOf_loop s st m a1 a2 a5 a6 (by omega) m 0 (by omega)
theorem implRisingOf_ev (s n st : Int) : Ev (fun k => impl_RisingOf.f k s n st) (if 0 ≤ s ∧ s ≤ 40 ∧ 0 ≤ n ∧ n ≤ 6 ∧ -1 ≤ st ∧ st ≤ 3 then rising s st n.toNat else -1) := by
  have no : ¬ (0 ≤ s ∧ s ≤ 40 ∧ 0 ≤ n ∧ n ≤ 6 ∧ -1 ≤ st ∧ st ≤ 3) → Ev (fun k => impl_RisingOf.j0 k s n st true) (if 0 ≤ s ∧ s ≤ 40 ∧ 0 ≤ n ∧ n ≤ 6 ∧ -1 ≤ st ∧ st ≤ 3 then rising s st n.toNat else -1) := fun h => by
    rw [if_neg h]; exact implRisingOf_j s n st true (fun h => by cases h)
  unfold impl_RisingOf.f
  by_cases h1 : n < 0
  · exact ev_pos h1 (no (by omega))
  refine ev_neg h1 ?_
  by_cases h2 : n > 6
  · exact ev_pos h2 (no (by omega))
  refine ev_neg h2 ?_
  by_cases h3 : s < 0
  · exact ev_pos h3 (no (by omega))
  refine ev_neg h3 ?_
  by_cases h4 : s > 40
  · exact ev_pos h4 (no (by omega))
  refine ev_neg h4 ?_
  by_cases h5 : st < -1
  · exact ev_pos h5 (no (by omega))
  refine ev_neg h5 ?_
  by_cases h6 : st > 3
  · rw [decide_eq_true h6]; exact no (by omega)
  · rw [decide_eq_false h6, if_pos (by omega)]
    exact implRisingOf_j s n st false (fun _ => by omega)

theorem FnExactRisingOf : laws_FnExactRisingOf.Pure := by
  intro s n st _ _ _
  refine Ev.rounds (g := fun k => laws_FnExactRisingOf.f k s n st) ?_
  unfold laws_FnExactRisingOf.f
  exact Ev.bind (specRisingOf_ev s n st) (Ev.bind (implRisingOf_ev s n st) (ev_pos rfl (Ev.now _)))

end Go.Proofs.Ytfodnffdccfleaa.Pure
