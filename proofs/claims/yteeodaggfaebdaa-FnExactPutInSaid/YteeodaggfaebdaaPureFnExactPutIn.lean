/- The law FnExactPutIn: for every input the printed function of the law answers true. No condition. -/
import Derived.Test.YteeodaggfaebdaaPFnExactPutInx3
import Derived.Test.YteeodaggfaebdaaPlain
set_option linter.unusedVariables false
set_option linter.unusedSimpArgs false
namespace Go.Proofs.Yteeodaggfaebdaa.Pure
open Go.RowKit Go.Proofs.Yteeodaggfaebdaa.PFnExactPutIn Go.Proofs.YteeodaggfaebdaaW.PrintWords Go.Proofs.YteeodaggfaebdaaW.PrintLast Go.Proofs.YteeodaggfaebdaaW.PrintMore Go.Proofs.Yteeodaggfaebdaa.Plain

theorem l1In_f (x a b : Int) : spec_l1In.f x a b = some (inB x a b) := by
  unfold spec_l1In.f inB
  by_cases h : x ≥ a
  · rw [if_pos h]; congr 1; simp [h]
  · rw [if_neg h]; congr 1; simp; omega

theorem coloursOk_f (x : Int) : impl_coloursOk.f x = some (colB x) := by
  unfold impl_coloursOk.f colB
  by_cases h : x ≥ 1
  · rw [if_pos h]; congr 1; simp [h]
  · rw [if_neg h]; congr 1; simp; omega

theorem toIntS_set (l : List Int) (i : Nat) (h : i < l.length) : (l.take i ++ List.replicate (l.length - i) 0).set i (rd l (i : Int)) = l.take (i + 1) ++ List.replicate (l.length - (i + 1)) 0 := by
  rw [take_rd l i h, List.set_append_right _ _ (by rw [List.length_take]; omega)]
  have e : l.length - i = (l.length - (i + 1)) + 1 := by omega
  rw [e, List.replicate_succ, List.length_take, Nat.min_eq_left (by omega), Nat.sub_self, List.set_cons_zero, List.append_assoc]
  rfl
theorem toIntS_loop (l : List Int) (hl : l.length ≤ 1000000000) (d : Nat) : ∀ i : Nat, i + d = l.length → Ev (fun k => laws_toIntS.l0 k l (l.take i ++ List.replicate (l.length - i) 0) (i : Int)) l := by
  induction d with
  | zero =>
    intro i hi
    refine Ev.step (fun _ => rfl) ?_
    refine ev_neg (by omega) ?_
    have : i = l.length := by omega
    subst this
    refine ev_eq (Ev.now _) ?_
    simp
  | succ d ih =>
    intro i hi
    refine Ev.step (fun _ => rfl) ?_
    refine ev_pos (by omega) (ev_pos (by omega) (ev_pos (by simp; omega) ?_))
    rw [show ((i : Int)).toNat = i from by simp, toIntS_set l i (by omega), w64n i (by omega)]
    exact ih (i + 1) (by omega)
theorem toIntS_ev (l : List Int) (hl : l.length ≤ 1000000000) : Ev (fun k => laws_toIntS.f k l) l := by
  unfold laws_toIntS.f
  refine ev_pos (by omega) (ev_pos (by simp; omega) ?_)
  have := toIntS_loop l hl l.length 0 (by omega)
  simpa using this

theorem eqIntS_loop (l : List Int) (hl : l.length ≤ 1000000000) (d : Nat) : ∀ i : Nat, i + d = l.length → Ev (fun k => laws_eqIntS.l0 k l l (i : Int)) true := by
  induction d with
  | zero =>
    intro i hi
    refine Ev.step (fun _ => rfl) ?_
    exact ev_neg (by omega) (Ev.now _)
  | succ d ih =>
    intro i hi
    refine Ev.step (fun _ => rfl) ?_
    refine ev_pos (by omega) (ev_pos (by omega) (ev_pos (by omega) (ev_pos rfl ?_)))
    rw [w64n i (by omega)]
    exact ih (i + 1) (by omega)
theorem eqIntS_ev (l : List Int) (hl : l.length ≤ 1000000000) : Ev (fun k => laws_eqIntS.f k l l) true := by
  unfold laws_eqIntS.f
  exact ev_pos rfl (eqIntS_loop l hl l.length 0 (by omega))

theorem implUrnOk_loop (l : List Int) (hl : l.length ≤ 1000000000) (d : Nat) : ∀ i : Nat, i + d = l.length → Ev (fun k => impl_UrnOk.l0 k l l (l.length : Int) (i : Int)) ((l.drop i).all urnE && colB l.length) := by
  induction d with
  | zero =>
    intro i hi
    refine Ev.step (fun _ => rfl) ?_
    refine ev_neg (by omega) ?_
    rw [coloursOk_f, List.drop_eq_nil_of_le (by omega)]
    exact Ev.now _
  | succ d ih =>
    intro i hi
    refine Ev.step (fun _ => rfl) ?_
    refine ev_pos (by omega) (ev_pos (by omega) (ev_pos (by omega) ?_))
    rw [drop_rd l i (by omega), List.all_cons]
    by_cases h1 : rd l (i : Int) < 0
    · refine ev_pos h1 (ev_eq (Ev.now _) ?_)
      rw [show urnE (rd l (i : Int)) = false from by simp [urnE]; omega]; rfl
    · refine ev_neg h1 ?_
      by_cases h2 : rd l (i : Int) > 40
      · refine ev_pos h2 (ev_eq (Ev.now _) ?_)
        rw [show urnE (rd l (i : Int)) = false from by simp [urnE]; omega]; rfl
      · refine ev_neg h2 ?_
        rw [w64n i (by omega), show urnE (rd l (i : Int)) = true from by simp [urnE]; omega, Bool.true_and]
        exact ih (i + 1) (by omega)
theorem implUrnOk_ev (l : List Int) (hl : l.length ≤ 1000000000) : Ev (fun k => impl_UrnOk.f k l) (urnB l) := by
  unfold impl_UrnOk.f
  exact implUrnOk_loop l hl l.length 0 (by omega)

theorem specUrnOk_loop (l : List Int) (hl : l.length ≤ 1000000000) (d : Nat) : ∀ i : Nat, i + d = l.length → Ev (fun k => spec_UrnOk.l0 k l (i : Int)) ((l.drop i).all urnE && colB l.length) := by
  induction d with
  | zero =>
    intro i hi
    refine Ev.step (fun _ => rfl) ?_
    refine ev_neg (by omega) ?_
    rw [l1In_f, List.drop_eq_nil_of_le (by omega)]
    exact Ev.now _
  | succ d ih =>
    intro i hi
    refine Ev.step (fun _ => rfl) ?_
    refine ev_pos (by omega) (ev_pos (by omega) ?_)
    rw [drop_rd l i (by omega), List.all_cons, l1In_f, show inB (rd l (i : Int)) 0 40 = urnE (rd l (i : Int)) from rfl]
    cases h : urnE (rd l (i : Int)) with
    | false => exact Ev.now _
    | true =>
      simp only [Option.bind_some, if_true, Bool.true_and]
      rw [w64n i (by omega)]
      exact ih (i + 1) (by omega)
theorem specUrnOk_ev (l : List Int) (hl : l.length ≤ 1000000000) : Ev (fun k => spec_UrnOk.f k l) (urnB l) := by
  unfold spec_UrnOk.f
  exact specUrnOk_loop l hl l.length 0 (by omega)

theorem markIntS_set (l : List Int) (k : Int) (i : Nat) (h : i < l.length) : (iota k i ++ l.drop i).set i (k + i) = iota k (i + 1) ++ l.drop (i + 1) := by
  rw [List.set_append_right _ _ (by rw [iota_length]; omega), iota_length, Nat.sub_self, drop_rd l i h, List.set_cons_zero, iota_snoc, List.append_assoc]
  rfl
theorem markIntS_loop (l : List Int) (q : Int) (hq0 : 0 ≤ q) (hq : q ≤ 1000000000) (hl : l.length ≤ 1000000000) (d : Nat) : ∀ i : Nat, i + d = l.length → Ev (fun k => laws_markIntS.l0 k (iota q i ++ l.drop i) (q + i) (i : Int)) (q + l.length, iota q l.length) := by
  induction d with
  | zero =>
    intro i hi
    refine Ev.step (fun _ => rfl) ?_
    refine ev_neg (by rw [List.length_append, iota_length, List.length_drop]; omega) (ev_eq (Ev.now _) ?_)
    rw [List.drop_eq_nil_of_le (by omega), List.append_nil, show i = l.length by omega]
  | succ d ih =>
    intro i hi
    refine Ev.step (fun _ => rfl) ?_
    refine ev_pos (by rw [List.length_append, iota_length, List.length_drop]; omega) (ev_pos (by omega) ?_)
    rw [show ((i : Int)).toNat = i from by simp, markIntS_set l q i (by omega), w64n i (by omega), w64 (by omega) (by omega), show q + (i : Int) + 1 = q + ((i + 1 : Nat) : Int) from by omega]
    exact ih (i + 1) (by omega)
theorem markIntS_ev (l : List Int) (q : Int) (hq0 : 0 ≤ q) (hq : q ≤ 1000000000) (hl : l.length ≤ 1000000000) : Ev (fun k => laws_markIntS.f k l q) (q + l.length, iota q l.length) := by
  unfold laws_markIntS.f
  have := markIntS_loop l q hq0 hq hl l.length 0 (by omega)
  simpa [iota] using this

theorem heldIntS_loop (n : Nat) (q : Int) (hq0 : 0 ≤ q) (hq : q ≤ 1000000000) (hl : n ≤ 1000000000) (d : Nat) : ∀ i : Nat, i + d = n → Ev (fun k => laws_heldIntS.l0 k (iota q n) (q + i) (i : Int)) (q + n) := by
  induction d with
  | zero =>
    intro i hi
    refine Ev.step (fun _ => rfl) ?_
    refine ev_neg (by rw [iota_length]; omega) (ev_eq (Ev.now _) ?_)
    rw [show i = n by omega]
  | succ d ih =>
    intro i hi
    refine Ev.step (fun _ => rfl) ?_
    refine ev_pos (by rw [iota_length]; omega) (ev_pos (by omega) (ev_pos (iota_rd n q i (by omega)) ?_))
    rw [w64n i (by omega), w64 (by omega) (by omega), show q + (i : Int) + 1 = q + ((i + 1 : Nat) : Int) from by omega]
    exact ih (i + 1) (by omega)
theorem heldIntS_ev (n : Nat) (q : Int) (hq0 : 0 ≤ q) (hq : q ≤ 1000000000) (hl : n ≤ 1000000000) : Ev (fun k => laws_heldIntS.f k (iota q n) q) (q + n) := by
  unfold laws_heldIntS.f
  have := heldIntS_loop n q hq0 hq hl n 0 (by omega)
  simpa using this

theorem Clone_f (l : List Int) (hl : l.length ≤ 1000000000) : slices_Clone_int_int.f l = some l := by
  unfold slices_Clone_int_int.f
  simp only [Option.bind_some]
  rw [if_pos (by simp; omega)]; rfl

theorem specPutIn_ev (u : List Int) (c m : Int) (hl : u.length ≤ 1000000000) : Ev (fun k => spec_PutIn.f k u c m) (putP u c m) := by
  have no : Ev (fun k => spec_PutIn.j0 k u c m true) ([], false) := Ev.step (fun _ => rfl) (Ev.now _)
  unfold spec_PutIn.f putP
  refine Ev.bind (specUrnOk_ev u hl) ?_
  by_cases h : urnB u = true
  · obtain ⟨h1, h2, h3⟩ := urnB_bounds h
    refine ev_pos h ?_
    rw [l1In_f, w64 (by omega) (by omega), l1In_f]
    refine Ev.bind (Ev.now _) ?_
    by_cases h4 : 0 ≤ c ∧ c < u.length
    · refine ev_pos (by simp [inB]; omega) (Ev.bind (Ev.now _) ?_)
      by_cases h5 : -40 ≤ m ∧ m ≤ 40
      · have hr := h1 _ (rd_range u c h4.1 h4.2)
        rw [show (!inB m (-40) 40) = false from by simp [inB]; omega]
        refine Ev.step (fun _ => by rw [spec_PutIn.j0]) ?_
        refine ev_neg (by simp) ?_
        refine Ev.bind (Ev.now _) ?_
        refine ev_pos (by simp; omega) ?_
        refine Ev.bind (Ev.now _) ?_
        refine ev_pos h4.1 ?_
        refine ev_pos (by simp; omega) ?_
        refine Ev.bind (Ev.now _) ?_
        rw [List.nil_append, w64 (by omega) (by omega)]
        refine Ev.bind (specUrnOk_ev _ (by rw [List.length_set]; omega)) ?_
        by_cases h6 : urnB (u.set c.toNat (rd u c + m)) = true
        · refine ev_pos h6 ?_; rw [if_pos ⟨⟨h, h4.1, h4.2, h5.1, h5.2⟩, h6⟩]; exact Ev.now _
        · refine ev_neg h6 ?_; rw [if_neg (fun hh => h6 hh.2)]; exact Ev.now _
      · rw [if_neg (fun hh => h5 hh.1.2.2.2), show (!inB m (-40) 40) = true from by simp [inB]; omega]
        exact no
    · refine ev_neg (by simp [inB]; omega) ?_
      rw [if_neg (fun hh => h4 ⟨hh.1.2.1, hh.1.2.2.1⟩)]; exact no
  · refine ev_neg h ?_
    rw [if_neg (fun hh => h hh.1.1)]; exact no

theorem implPutIn_ev (u : List Int) (c m : Int) (hl : u.length ≤ 1000000000) : Ev (fun k => impl_PutIn.f k u c m) (putP u c m) := by
  have no : Ev (fun k => impl_PutIn.j0 k u c m true) ([], false) := Ev.step (fun _ => rfl) (Ev.now _)
  unfold impl_PutIn.f putP
  refine Ev.bind (implUrnOk_ev u hl) ?_
  by_cases h : urnB u = true
  · obtain ⟨h1, h2, h3⟩ := urnB_bounds h
    refine ev_pos h ?_
    by_cases a1 : c < 0
    · refine ev_pos a1 ?_
      rw [if_neg (by omega)]; exact no
    refine ev_neg a1 ?_
    by_cases a2 : c ≥ (u.length : Int)
    · refine ev_pos a2 ?_
      rw [if_neg (by omega)]; exact no
    refine ev_neg a2 ?_
    by_cases a3 : m > 40
    · refine ev_pos a3 ?_
      rw [if_neg (by omega)]; exact no
    refine ev_neg a3 ?_
    by_cases a4 : m < -40
    · rw [decide_eq_true a4, if_neg (by omega)]; exact no
    · have hr := h1 _ (rd_range u c (by omega) (by omega))
      rw [decide_eq_false a4]
      refine Ev.step (fun _ => by rw [impl_PutIn.j0]) ?_
      refine ev_neg (by simp) ?_
      rw [Clone_f u hl]
      refine Ev.bind (Ev.now _) ?_
      refine ev_pos (by omega) ?_
      refine ev_pos (by omega) ?_
      refine Ev.bind (Ev.now _) ?_
      rw [w64 (by omega) (by omega)]
      refine Ev.bind (implUrnOk_ev _ (by rw [List.length_set]; omega)) ?_
      by_cases h6 : urnB (u.set c.toNat (rd u c + m)) = true
      · refine ev_pos h6 ?_; rw [if_pos ⟨⟨h, by omega, by omega, by omega, by omega⟩, h6⟩]; exact Ev.now _
      · refine ev_neg h6 ?_; rw [if_neg (fun hh => h6 hh.2)]; exact Ev.now _
  · refine ev_neg h ?_
    rw [if_neg (fun hh => h hh.1.1)]; exact no

theorem FnExactPutIn : laws_FnExactPutIn.Pure := by
  intro u c m hl0 _ _ _ _
  refine Ev.rounds (g := fun k => laws_FnExactPutIn.f k u c m) ?_
  unfold laws_FnExactPutIn.f
  by_cases h : (u.length : Int) > 1048576
  · exact ev_pos h (Ev.now _)
  refine ev_neg h ?_
  have hl : u.length ≤ 1000000000 := by omega
  have hs := specPutIn_ev u c m hl
  have hi := implPutIn_ev u c m hl
  have hgl := putP_len u c m
  generalize putP u c m = g at hs hi hgl
  obtain ⟨g, ok⟩ := g
  simp only at hgl
  have hge := eqIntS_ev g (by omega)
  have ht := toIntS_ev u hl
  have hm := markIntS_ev g 1 (by omega) (by omega) (by omega)
  have hh := heldIntS_ev g.length 1 (by omega) (by omega) (by omega)
  refine Ev.bind ht (Ev.bind hs (Ev.bind ht (Ev.bind hi (Ev.bind hge (ev_pos rfl ?_)))))
  refine Ev.step (fun _ => by rw [laws_FnExactPutIn.j0]) ?_
  refine ev_neg (by simp) ?_
  refine Ev.bind ht (Ev.bind (eqIntS_ev u hl) (ev_pos rfl (Ev.bind (markIntS_ev u 1 (by omega) (by omega) hl) (ev_neg (by simp; omega) (Ev.bind hge (ev_pos rfl ?_))))))
  refine Ev.step (fun _ => by rw [laws_FnExactPutIn.j1]) ?_
  refine ev_neg (by simp) ?_
  refine Ev.bind hm (Ev.bind hh (ev_neg (by omega) (ev_pos rfl (Ev.bind ht (Ev.bind hi (Ev.bind hge (ev_pos rfl ?_)))))))
  refine Ev.step (fun _ => by rw [laws_FnExactPutIn.j2]) ?_
  refine ev_neg (by simp) ?_
  exact Ev.bind hh (ev_neg (by omega) (ev_pos rfl (Ev.now _)))

end Go.Proofs.Yteeodaggfaebdaa.Pure
