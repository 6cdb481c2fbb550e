/- The law FnExactSameTwice: for every input the printed function of the law answers true. No condition. -/
import Derived.Test.YtfodnffdccfleaaPFnExactSameTwicex2
import Derived.Test.YtfodnffdccfleaaPlain
set_option linter.unusedVariables false
set_option linter.unusedSimpArgs false
namespace Go.Proofs.Ytfodnffdccfleaa.Pure
open Go.RowKit Go.Proofs.Ytfodnffdccfleaa.PFnExactSameTwice Go.Proofs.YtfodnffdccfleaaW.PrintWords Go.Proofs.YtfodnffdccfleaaW.PrintLast Go.Proofs.YtfodnffdccfleaaW.PrintMore Go.Proofs.Ytfodnffdccfleaa.Plain

theorem l1In_f (x a b : Int) : spec_l1In.f x a b = some (inB x a b) := by
  unfold spec_l1In.f inB
  by_cases h : x ≥ a
  · rw [if_pos h]; congr 1; simp [h]
  · rw [if_neg h]; congr 1; simp; omega

theorem coloursOk_f (x : Int) : impl_coloursOk.f x = some (colB x) := by
  unfold impl_coloursOk.f colB
  by_cases h : x ≥ 1
  · rw [if_pos h]; congr 1; simp [h]
  · rw [if_neg h]; congr 1; simp; omega

theorem toIntS_set (l : List Int) (i : Nat) (h : i < l.length) : (l.take i ++ List.replicate (l.length - i) 0).set i (rd l (i : Int)) = l.take (i + 1) ++ List.replicate (l.length - (i + 1)) 0 := by
  rw [take_rd l i h, List.set_append_right _ _ (by rw [List.length_take]; omega)]
  have e : l.length - i = (l.length - (i + 1)) + 1 := by omega
  rw [e, List.replicate_succ, List.length_take, Nat.min_eq_left (by omega), Nat.sub_self, List.set_cons_zero, List.append_assoc]
  rfl
theorem toIntS_loop (l : List Int) (hl : l.length ≤ 1000000000) (d : Nat) : ∀ i : Nat, i + d = l.length → Ev (fun k => laws_toIntS.l0 k l (l.take i ++ List.replicate (l.length - i) 0) (i : Int)) l := by
  induction d with
  | zero =>
    intro i hi
    refine Ev.step (fun _ => rfl) ?_
    refine ev_neg (by omega) ?_
    have : i = l.length := by omega
    subst this
    refine ev_eq (Ev.now _) ?_
    simp
  | succ d ih =>
    intro i hi
    refine Ev.step (fun _ => rfl) ?_
    refine ev_pos (by omega) (ev_pos (by omega) (ev_pos (by simp; omega) ?_))
    rw [show ((i : Int)).toNat = i from by simp, toIntS_set l i (by omega), w64n i (by omega)]
    exact ih (i + 1) (by omega)
theorem toIntS_ev (l : List Int) (hl : l.length ≤ 1000000000) : Ev (fun k => laws_toIntS.f k l) l := by
  unfold laws_toIntS.f
  refine ev_pos (by omega) (ev_pos (by simp; omega) ?_)
  have := toIntS_loop l hl l.length 0 (by omega)
  simpa using this

theorem eqIntS_loop (l : List Int) (hl : l.length ≤ 1000000000) (d : Nat) : ∀ i : Nat, i + d = l.length → Ev (fun k => laws_eqIntS.l0 k l l (i : Int)) true := by
  induction d with
  | zero =>
    intro i hi
    refine Ev.step (fun _ => rfl) ?_
    exact ev_neg (by omega) (Ev.now _)
  | succ d ih =>
    intro i hi
    refine Ev.step (fun _ => rfl) ?_
    refine ev_pos (by omega) (ev_pos (by omega) (ev_pos (by omega) (ev_pos rfl ?_)))
    rw [w64n i (by omega)]
    exact ih (i + 1) (by omega)
theorem eqIntS_ev (l : List Int) (hl : l.length ≤ 1000000000) : Ev (fun k => laws_eqIntS.f k l l) true := by
  unfold laws_eqIntS.f
  exact ev_pos rfl (eqIntS_loop l hl l.length 0 (by omega))

theorem implUrnOk_loop (l : List Int) (hl : l.length ≤ 1000000000) (d : Nat) : ∀ i : Nat, i + d = l.length → Ev (fun k => impl_UrnOk.l0 k l l (l.length : Int) (i : Int)) ((l.drop i).all urnE && colB l.length) := by
  induction d with
  | zero =>
    intro i hi
    refine Ev.step (fun _ => rfl) ?_
    refine ev_neg (by omega) ?_
    rw [coloursOk_f, List.drop_eq_nil_of_le (by omega)]
    exact Ev.now _
  | succ d ih =>
    intro i hi
    refine Ev.step (fun _ => rfl) ?_
    refine ev_pos (by omega) (ev_pos (by omega) (ev_pos (by omega) ?_))
    rw [drop_rd l i (by omega), List.all_cons]
    by_cases h1 : rd l (i : Int) < 0
    · refine ev_pos h1 (ev_eq (Ev.now _) ?_)
      rw [show urnE (rd l (i : Int)) = false from by simp [urnE]; omega]; rfl
    · refine ev_neg h1 ?_
      by_cases h2 : rd l (i : Int) > 40
      · refine ev_pos h2 (ev_eq (Ev.now _) ?_)
        rw [show urnE (rd l (i : Int)) = false from by simp [urnE]; omega]; rfl
      · refine ev_neg h2 ?_
        rw [w64n i (by omega), show urnE (rd l (i : Int)) = true from by simp [urnE]; omega, Bool.true_and]
        exact ih (i + 1) (by omega)
theorem implUrnOk_ev (l : List Int) (hl : l.length ≤ 1000000000) : Ev (fun k => impl_UrnOk.f k l) (urnB l) := by
  unfold impl_UrnOk.f
  exact implUrnOk_loop l hl l.length 0 (by omega)

theorem specUrnOk_loop (l : List Int) (hl : l.length ≤ 1000000000) (d : Nat) : ∀ i : Nat, i + d = l.length → Ev (fun k => spec_UrnOk.l0 k l (i : Int)) ((l.drop i).all urnE && colB l.length) := by
  induction d with
  | zero =>
    intro i hi
    refine Ev.step (fun _ => rfl) ?_
    refine ev_neg (by omega) ?_
    rw [l1In_f, List.drop_eq_nil_of_le (by omega)]
    exact Ev.now _
  | succ d ih =>
    intro i hi
    refine Ev.step (fun _ => rfl) ?_
    refine ev_pos (by omega) (ev_pos (by omega) ?_)
    rw [drop_rd l i (by omega), List.all_cons, l1In_f, show inB (rd l (i : Int)) 0 40 = urnE (rd l (i : Int)) from rfl]
    cases h : urnE (rd l (i : Int)) with
    | false => exact Ev.now _
    | true =>
      simp only [Option.bind_some, if_true, Bool.true_and]
      rw [w64n i (by omega)]
      exact ih (i + 1) (by omega)
theorem specUrnOk_ev (l : List Int) (hl : l.length ≤ 1000000000) : Ev (fun k => spec_UrnOk.f k l) (urnB l) := by
  unfold spec_UrnOk.f
  exact specUrnOk_loop l hl l.length 0 (by omega)

theorem specSameTwice_loop (l : List Int) (hl : l.length ≤ 3) (hb : ∀ x ∈ l, 0 ≤ x ∧ x ≤ 40) (d : Nat) : ∀ i : Nat, i + d = l.length → Ev (fun k => spec_SameTwice.l0 k l (sumF (fun x => x * x) (l.take i)) (i : Int)) (sumF (fun x => x * x) l) := by
  induction d with
  | zero =>
    intro i hi
    refine Ev.step (fun _ => rfl) ?_
    refine ev_neg (by omega) (ev_eq (Ev.now _) ?_)
    rw [List.take_of_length_le (by omega)]
  | succ d ih =>
    intro i hi
    refine Ev.step (fun _ => rfl) ?_
    refine ev_pos (by omega) (ev_pos (by omega) ?_)
    have h0 : ∀ x ∈ l, 0 ≤ x * x ∧ x * x ≤ 1600 := fun x hx => mulb (hb x hx).1 (hb x hx).2 (hb x hx).1 (hb x hx).2
    have h1 := sumF_bound (fun x => x * x) 1600 (by omega) (l.take i) (fun x hx => h0 x (List.mem_of_mem_take hx))
    have h2 := h0 _ (rd_mem l i (by omega))
    have h4 : sumF (fun x => x * x) (l.take i) + rd l (i : Int) * rd l (i : Int) = sumF (fun x => x * x) (l.take (i + 1)) := by rw [take_rd l i (by omega), sumF_append]; simp [sumF]
    have h5 : ((l.take i).length : Int) ≤ 3 := by rw [List.length_take]; omega
    rw [w64n i (by omega), w64 (x := rd l (i : Int) * rd l (i : Int)) (by omega) (by omega), w64 (by omega) (by omega), h4]
    exact ih (i + 1) (by omega)
theorem specSameTwice_ev (l : List Int) (hl : l.length ≤ 1000000000) : Ev (fun k => spec_SameTwice.f k l) (if urnB l = true then sumF (fun x => x * x) l else -1) := by
  unfold spec_SameTwice.f
  refine Ev.bind (specUrnOk_ev l hl) ?_
  by_cases h : urnB l = true
  · rw [if_pos h]
    obtain ⟨h1, h2, h3⟩ := urnB_bounds h
    exact ev_pos h (specSameTwice_loop l h3 h1 l.length 0 (by omega))
  · rw [if_neg h]
    exact ev_neg h (Ev.now _)

theorem implSameTwice_loop (l : List Int) (hl : l.length ≤ 3) (hb : ∀ x ∈ l, 0 ≤ x ∧ x ≤ 40) (d : Nat) : ∀ i : Nat, i + d = l.length → Ev (fun k => impl_SameTwice.l0 k (sumF (fun x => x * x) (l.take i)) l (l.length : Int) (i : Int)) (sumF (fun x => x * x) l) := by
  induction d with
  | zero =>
    intro i hi
    refine Ev.step (fun _ => rfl) ?_
    refine ev_neg (by omega) (ev_eq (Ev.now _) ?_)
    rw [List.take_of_length_le (by omega)]
  | succ d ih =>
    intro i hi
    refine Ev.step (fun _ => rfl) ?_
    refine ev_pos (by omega) (ev_pos (by omega) (ev_pos (by omega) ?_))
    have h0 : ∀ x ∈ l, 0 ≤ x * x ∧ x * x ≤ 1600 := fun x hx => mulb (hb x hx).1 (hb x hx).2 (hb x hx).1 (hb x hx).2
    have h1 := sumF_bound (fun x => x * x) 1600 (by omega) (l.take i) (fun x hx => h0 x (List.mem_of_mem_take hx))
    have h2 := h0 _ (rd_mem l i (by omega))
    have h4 : sumF (fun x => x * x) (l.take i) + rd l (i : Int) * rd l (i : Int) = sumF (fun x => x * x) (l.take (i + 1)) := by rw [take_rd l i (by omega), sumF_append]; simp [sumF]
    have h5 : ((l.take i).length : Int) ≤ 3 := by rw [List.length_take]; omega
    rw [w64n i (by omega), w64 (x := rd l (i : Int) * rd l (i : Int)) (by omega) (by omega), w64 (by omega) (by omega), h4]
    exact ih (i + 1) (by omega)
theorem implSameTwice_ev (l : List Int) (hl : l.length ≤ 1000000000) : Ev (fun k => impl_SameTwice.f k l) (if urnB l = true then sumF (fun x => x * x) l else -1) := by
  unfold impl_SameTwice.f
  refine Ev.bind (implUrnOk_ev l hl) ?_
  by_cases h : urnB l = true
  · rw [if_pos h]
    obtain ⟨h1, h2, h3⟩ := urnB_bounds h
    exact ev_pos h (implSameTwice_loop l h3 h1 l.length 0 (by omega))
  · rw [if_neg h]
    exact ev_neg h (Ev.now _)

theorem FnExactSameTwice : laws_FnExactSameTwice.Pure := by
  intro l hl0 _ _
  refine Ev.rounds (g := fun k => laws_FnExactSameTwice.f k l) ?_
  unfold laws_FnExactSameTwice.f
  by_cases h : (l.length : Int) > 1048576
  · exact ev_pos h (Ev.now _)
  refine ev_neg h ?_
  have hl : l.length ≤ 1000000000 := by omega
  refine Ev.bind (toIntS_ev l hl) (Ev.bind (specSameTwice_ev l hl) (Ev.bind (toIntS_ev l hl) (Ev.bind (implSameTwice_ev l hl) ?_)))
  exact ev_pos rfl (Ev.bind (toIntS_ev l hl) (Ev.bind (eqIntS_ev l hl) (Ev.now _)))

end Go.Proofs.Ytfodnffdccfleaa.Pure
