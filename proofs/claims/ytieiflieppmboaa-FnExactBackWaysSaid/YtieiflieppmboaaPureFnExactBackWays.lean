/- The law FnExactBackWays: for every input the printed function of the law answers true. No condition. -/
import Derived.Test.YtieiflieppmboaaPFnExactBackWaysx2
import Derived.Test.YtieiflieppmboaaPlain
set_option linter.unusedVariables false
set_option linter.unusedSimpArgs false
namespace Go.Proofs.Ytieiflieppmboaa.Pure
open Go.RowKit Go.Proofs.Ytieiflieppmboaa.PFnExactBackWays Go.Proofs.YtieiflieppmboaaW.PrintWords Go.Proofs.YtieiflieppmboaaW.PrintLast Go.Proofs.YtieiflieppmboaaW.PrintMore Go.Proofs.Ytieiflieppmboaa.Plain

theorem l1In_f (x a b : Int) : spec_l1In.f x a b = some (inB x a b) := by
  unfold spec_l1In.f inB
  by_cases h : x ≥ a
  · rw [if_pos h]; congr 1; simp [h]
  · rw [if_neg h]; congr 1; simp; omega

theorem coloursOk_f (x : Int) : impl_coloursOk.f x = some (colB x) := by
  unfold impl_coloursOk.f colB
  by_cases h : x ≥ 1
  · rw [if_pos h]; congr 1; simp [h]
  · rw [if_neg h]; congr 1; simp; omega

theorem toIntS_set (l : List Int) (i : Nat) (h : i < l.length) : (l.take i ++ List.replicate (l.length - i) 0).set i (rd l (i : Int)) = l.take (i + 1) ++ List.replicate (l.length - (i + 1)) 0 := by
  rw [take_rd l i h, List.set_append_right _ _ (by rw [List.length_take]; omega)]
  have e : l.length - i = (l.length - (i + 1)) + 1 := by omega
  rw [e, List.replicate_succ, List.length_take, Nat.min_eq_left (by omega), Nat.sub_self, List.set_cons_zero, List.append_assoc]
  rfl
theorem toIntS_loop (l : List Int) (hl : l.length ≤ 1000000000) (d : Nat) : ∀ i : Nat, i + d = l.length → Ev (fun k => laws_toIntS.l0 k l (l.take i ++ List.replicate (l.length - i) 0) (i : Int)) l := by
  induction d with
  | zero =>
    intro i hi
    refine Ev.step (fun _ => rfl) ?_
    refine ev_neg (by omega) ?_
    have : i = l.length := by omega
    subst this
    refine ev_eq (Ev.now _) ?_
    simp
  | succ d ih =>
    intro i hi
    refine Ev.step (fun _ => rfl) ?_
    refine ev_pos (by omega) (ev_pos (by omega) (ev_pos (by simp; omega) ?_))
    rw [show ((i : Int)).toNat = i from by simp, toIntS_set l i (by omega), w64n i (by omega)]
    exact ih (i + 1) (by omega)
theorem toIntS_ev (l : List Int) (hl : l.length ≤ 1000000000) : Ev (fun k => laws_toIntS.f k l) l := by
  unfold laws_toIntS.f
  refine ev_pos (by omega) (ev_pos (by simp; omega) ?_)
  have := toIntS_loop l hl l.length 0 (by omega)
  simpa using this

theorem eqIntS_loop (l : List Int) (hl : l.length ≤ 1000000000) (d : Nat) : ∀ i : Nat, i + d = l.length → Ev (fun k => laws_eqIntS.l0 k l l (i : Int)) true := by
  induction d with
  | zero =>
    intro i hi
    refine Ev.step (fun _ => rfl) ?_
    exact ev_neg (by omega) (Ev.now _)
  | succ d ih =>
    intro i hi
    refine Ev.step (fun _ => rfl) ?_
    refine ev_pos (by omega) (ev_pos (by omega) (ev_pos (by omega) (ev_pos rfl ?_)))
    rw [w64n i (by omega)]
    exact ih (i + 1) (by omega)
theorem eqIntS_ev (l : List Int) (hl : l.length ≤ 1000000000) : Ev (fun k => laws_eqIntS.f k l l) true := by
  unfold laws_eqIntS.f
  exact ev_pos rfl (eqIntS_loop l hl l.length 0 (by omega))

theorem implUrnOk_loop (l : List Int) (hl : l.length ≤ 1000000000) (d : Nat) : ∀ i : Nat, i + d = l.length → Ev (fun k => impl_UrnOk.l0 k l l (l.length : Int) (i : Int)) ((l.drop i).all urnE && colB l.length) := by
  induction d with
  | zero =>
    intro i hi
    refine Ev.step (fun _ => rfl) ?_
    refine ev_neg (by omega) ?_
    rw [coloursOk_f, List.drop_eq_nil_of_le (by omega)]
    exact Ev.now _
  | succ d ih =>
    intro i hi
    refine Ev.step (fun _ => rfl) ?_
    refine ev_pos (by omega) (ev_pos (by omega) (ev_pos (by omega) ?_))
    rw [drop_rd l i (by omega), List.all_cons]
    by_cases h1 : rd l (i : Int) < 0
    · refine ev_pos h1 (ev_eq (Ev.now _) ?_)
      rw [show urnE (rd l (i : Int)) = false from by simp [urnE]; omega]; rfl
    · refine ev_neg h1 ?_
      by_cases h2 : rd l (i : Int) > 40
      · refine ev_pos h2 (ev_eq (Ev.now _) ?_)
        rw [show urnE (rd l (i : Int)) = false from by simp [urnE]; omega]; rfl
      · refine ev_neg h2 ?_
        rw [w64n i (by omega), show urnE (rd l (i : Int)) = true from by simp [urnE]; omega, Bool.true_and]
        exact ih (i + 1) (by omega)
theorem implUrnOk_ev (l : List Int) (hl : l.length ≤ 1000000000) : Ev (fun k => impl_UrnOk.f k l) (urnB l) := by
  unfold impl_UrnOk.f
  exact implUrnOk_loop l hl l.length 0 (by omega)

theorem specUrnOk_loop (l : List Int) (hl : l.length ≤ 1000000000) (d : Nat) : ∀ i : Nat, i + d = l.length → Ev (fun k => spec_UrnOk.l0 k l (i : Int)) ((l.drop i).all urnE && colB l.length) := by
  induction d with
  | zero =>
    intro i hi
    refine Ev.step (fun _ => rfl) ?_
    refine ev_neg (by omega) ?_
    rw [l1In_f, List.drop_eq_nil_of_le (by omega)]
    exact Ev.now _
  | succ d ih =>
    intro i hi
    refine Ev.step (fun _ => rfl) ?_
    refine ev_pos (by omega) (ev_pos (by omega) ?_)
    rw [drop_rd l i (by omega), List.all_cons, l1In_f, show inB (rd l (i : Int)) 0 40 = urnE (rd l (i : Int)) from rfl]
    cases h : urnE (rd l (i : Int)) with
    | false => exact Ev.now _
    | true =>
      simp only [Option.bind_some, if_true, Bool.true_and]
      rw [w64n i (by omega)]
      exact ih (i + 1) (by omega)
theorem specUrnOk_ev (l : List Int) (hl : l.length ≤ 1000000000) : Ev (fun k => spec_UrnOk.f k l) (urnB l) := by
  unfold spec_UrnOk.f
  exact specUrnOk_loop l hl l.length 0 (by omega)

theorem implWordOk_loop (c : Int) (l : List Int) (hl : l.length ≤ 1000000000) (d : Nat) : ∀ i : Nat, i + d = l.length → Ev (fun k => impl_WordOk.l0 k c l l (l.length : Int) (i : Int)) ((l.drop i).all (fun x => decide (0 ≤ x ∧ x < c)) && (colB c && decide ((l.length : Int) ≤ 6))) := by
  induction d with
  | zero =>
    intro i hi
    refine Ev.step (fun _ => rfl) ?_
    refine ev_neg (by omega) ?_
    rw [coloursOk_f, List.drop_eq_nil_of_le (by omega)]
    cases h : colB c <;> exact Ev.now _
  | succ d ih =>
    intro i hi
    refine Ev.step (fun _ => rfl) ?_
    refine ev_pos (by omega) (ev_pos (by omega) (ev_pos (by omega) ?_))
    rw [drop_rd l i (by omega), List.all_cons]
    by_cases h1 : rd l (i : Int) < 0
    · refine ev_pos h1 (ev_eq (Ev.now _) ?_)
      rw [show decide (0 ≤ rd l (i : Int) ∧ rd l (i : Int) < c) = false from by simp; omega]; rfl
    · refine ev_neg h1 ?_
      by_cases h2 : rd l (i : Int) ≥ c
      · refine ev_pos h2 (ev_eq (Ev.now _) ?_)
        rw [show decide (0 ≤ rd l (i : Int) ∧ rd l (i : Int) < c) = false from by simp; omega]; rfl
      · refine ev_neg h2 ?_
        rw [w64n i (by omega), show decide (0 ≤ rd l (i : Int) ∧ rd l (i : Int) < c) = true from by simp; omega, Bool.true_and]
        exact ih (i + 1) (by omega)
theorem implWordOk_ev (c : Int) (l : List Int) (hl : l.length ≤ 1000000000) : Ev (fun k => impl_WordOk.f k c l) (wordB c l) := by
  unfold impl_WordOk.f
  exact implWordOk_loop c l hl l.length 0 (by omega)

theorem specWordOk_loop (c : Int) (l : List Int) (hl : l.length ≤ 1000000000) (d : Nat) : ∀ i : Nat, i + d = l.length → Ev (fun k => spec_WordOk.l0 k c l (i : Int)) ((l.drop i).all (fun x => decide (0 ≤ x ∧ x < c)) && (colB c && decide ((l.length : Int) ≤ 6))) := by
  induction d with
  | zero =>
    intro i hi
    refine Ev.step (fun _ => rfl) ?_
    refine ev_neg (by omega) ?_
    rw [l1In_f, List.drop_eq_nil_of_le (by omega), show inB c 1 3 = colB c from rfl]
    cases h : colB c <;> exact Ev.now _
  | succ d ih =>
    intro i hi
    refine Ev.step (fun _ => rfl) ?_
    refine ev_pos (by omega) (ev_pos (by omega) ?_)
    rw [drop_rd l i (by omega), List.all_cons]
    by_cases h1 : rd l (i : Int) < 0
    · refine ev_pos h1 (ev_eq (Ev.now _) ?_)
      rw [show decide (0 ≤ rd l (i : Int) ∧ rd l (i : Int) < c) = false from by simp; omega]; rfl
    · refine ev_neg h1 ?_
      by_cases h2 : rd l (i : Int) ≥ c
      · refine ev_pos h2 (ev_eq (Ev.now _) ?_)
        rw [show decide (0 ≤ rd l (i : Int) ∧ rd l (i : Int) < c) = false from by simp; omega]; rfl
      · refine ev_neg h2 ?_
        rw [w64n i (by omega), show decide (0 ≤ rd l (i : Int) ∧ rd l (i : Int) < c) = true from by simp; omega, Bool.true_and]
        exact ih (i + 1) (by omega)
theorem specWordOk_ev (c : Int) (l : List Int) (hl : l.length ≤ 1000000000) : Ev (fun k => spec_WordOk.f k c l) (wordB c l) := by
  unfold spec_WordOk.f
  exact specWordOk_loop c l hl l.length 0 (by omega)

theorem implBackWays_loop (u ws : List Int) (hu : ∀ x ∈ u, 0 ≤ x ∧ x ≤ 40) (hw : ∀ x ∈ ws, 0 ≤ x ∧ x < u.length) (hl : ws.length ≤ 6) (d : Nat) : ∀ i : Nat, i + d = ws.length → Ev (fun k => impl_BackWays.l0 k u (prodF (rd u) (ws.take i)) ws (ws.length : Int) (i : Int)) (prodF (rd u) ws) := by
  induction d with
  | zero =>
    intro i hi
    refine Ev.step (fun _ => rfl) ?_
    refine ev_neg (by omega) (ev_eq (Ev.now _) ?_)
    rw [List.take_of_length_le (by omega)]
  | succ d ih =>
    intro i hi
    refine Ev.step (fun _ => rfl) ?_
    have hc := hw _ (rd_mem ws i (by omega))
    refine ev_pos (by omega) (ev_pos (by omega) (ev_pos (by omega) (ev_pos hc.1 (ev_pos hc.2 ?_))))
    have hb := prodF_bound' (rd u) 40 (by omega) (by omega) (ws.take (i + 1)) (by rw [List.length_take]; omega) (fun x hx => by
      have := hw x (List.mem_of_mem_take hx); exact hu _ (rd_range u x this.1 this.2))
    have e : prodF (rd u) (ws.take i) * rd u (rd ws (i : Int)) = prodF (rd u) (ws.take (i + 1)) := by rw [take_rd ws i (by omega), prodF_append]; simp [prodF]
    rw [w64n i (by omega), e, w64 (by omega) (by omega)]
    exact ih (i + 1) (by omega)
theorem implBackWays_ev (u ws : List Int) (hl : u.length ≤ 1000000000) (hl2 : ws.length ≤ 1000000000) : Ev (fun k => impl_BackWays.f k u ws) (if urnB u = true ∧ wordB u.length ws = true then prodF (rd u) ws else -1) := by
  have no : Ev (fun k => impl_BackWays.j0 k u ws true) (-1) := Ev.step (fun _ => rfl) (Ev.now _)
  unfold impl_BackWays.f
  refine Ev.bind (implUrnOk_ev u hl) ?_
  by_cases h : urnB u = true
  · refine ev_pos h (Ev.bind (implWordOk_ev _ ws hl2) ?_)
    obtain ⟨h1, h2, h3⟩ := urnB_bounds h
    cases h4 : wordB u.length ws with
    | false => rw [if_neg (fun hh => by cases hh.2)]; exact no
    | true =>
      rw [if_pos ⟨h, rfl⟩]
      obtain ⟨h5, h6, h7, h8⟩ := wordB_bounds h4
      exact Ev.step (fun _ => rfl) (implBackWays_loop u ws h1 h5 h8 ws.length 0 (by omega))
  · refine ev_neg h ?_
    rw [if_neg (fun hh => h hh.1)]; exact no

theorem specBackWays_loop (u ws : List Int) (hu : ∀ x ∈ u, 0 ≤ x ∧ x ≤ 40) (hw : ∀ x ∈ ws, 0 ≤ x ∧ x < u.length) (hl : ws.length ≤ 6) (d : Nat) : ∀ i : Nat, i + d = ws.length → Ev (fun k => spec_BackWays.l0 k u ws (prodF (rd u) (ws.take i)) (i : Int)) (prodF (rd u) ws) := by
  induction d with
  | zero =>
    intro i hi
    refine Ev.step (fun _ => rfl) ?_
    refine ev_neg (by omega) (ev_eq (Ev.now _) ?_)
    rw [List.take_of_length_le (by omega)]
  | succ d ih =>
    intro i hi
    refine Ev.step (fun _ => rfl) ?_
    have hc := hw _ (rd_mem ws i (by omega))
    refine ev_pos (by omega) (ev_pos (by omega) (ev_pos hc.1 (ev_pos hc.2 ?_)))
    have hb := prodF_bound' (rd u) 40 (by omega) (by omega) (ws.take (i + 1)) (by rw [List.length_take]; omega) (fun x hx => by
      have := hw x (List.mem_of_mem_take hx); exact hu _ (rd_range u x this.1 this.2))
    have e : prodF (rd u) (ws.take i) * rd u (rd ws (i : Int)) = prodF (rd u) (ws.take (i + 1)) := by rw [take_rd ws i (by omega), prodF_append]; simp [prodF]
    rw [w64n i (by omega), e, w64 (by omega) (by omega)]
    exact ih (i + 1) (by omega)
theorem specBackWays_ev (u ws : List Int) (hl : u.length ≤ 1000000000) (hl2 : ws.length ≤ 1000000000) : Ev (fun k => spec_BackWays.f k u ws) (if urnB u = true ∧ wordB u.length ws = true then prodF (rd u) ws else -1) := by
  have no : Ev (fun k => spec_BackWays.j0 k u ws true) (-1) := Ev.step (fun _ => rfl) (Ev.now _)
  unfold spec_BackWays.f
  refine Ev.bind (specUrnOk_ev u hl) ?_
  by_cases h : urnB u = true
  · refine ev_pos h (Ev.bind (specWordOk_ev _ ws hl2) ?_)
    obtain ⟨h1, h2, h3⟩ := urnB_bounds h
    cases h4 : wordB u.length ws with
    | false => rw [if_neg (fun hh => by cases hh.2)]; exact no
    | true =>
      rw [if_pos ⟨h, rfl⟩]
      obtain ⟨h5, h6, h7, h8⟩ := wordB_bounds h4
      exact Ev.step (fun _ => rfl) (specBackWays_loop u ws h1 h5 h8 ws.length 0 (by omega))
  · refine ev_neg h ?_
    rw [if_neg (fun hh => h hh.1)]; exact no

theorem FnExactBackWays : laws_FnExactBackWays.Pure := by
  intro u w hu0 _ _ hw0 _ _
  refine Ev.rounds (g := fun k => laws_FnExactBackWays.f k u w) ?_
  unfold laws_FnExactBackWays.f
  by_cases h : (u.length : Int) > 1048576
  · exact ev_pos h (Ev.now _)
  refine ev_neg h ?_
  by_cases h' : (w.length : Int) > 1048576
  · exact ev_pos h' (Ev.now _)
  refine ev_neg h' ?_
  have hu : u.length ≤ 1000000000 := by omega
  have hw : w.length ≤ 1000000000 := by omega
  refine Ev.bind (toIntS_ev u hu) (Ev.bind (toIntS_ev w hw) (Ev.bind (specBackWays_ev u w hu hw) (Ev.bind (toIntS_ev u hu) (Ev.bind (toIntS_ev w hw) (Ev.bind (implBackWays_ev u w hu hw) ?_)))))
  exact ev_pos rfl (Ev.bind (toIntS_ev u hu) (Ev.bind (eqIntS_ev u hu) (Ev.bind (toIntS_ev w hw) (Ev.bind (eqIntS_ev w hw) (Ev.now _)))))

end Go.Proofs.Ytieiflieppmboaa.Pure
