/- The law FnExactPouredUrn: for every input the printed function of the law answers true. No condition. -/
import Derived.Test.YteeodaggfaebdaaPFnExactPouredUrnx3
import Derived.Test.YteeodaggfaebdaaPlain
set_option linter.unusedVariables false
set_option linter.unusedSimpArgs false
namespace Go.Proofs.Yteeodaggfaebdaa.Pure
open Go.RowKit Go.Proofs.Yteeodaggfaebdaa.PFnExactPouredUrn Go.Proofs.YteeodaggfaebdaaW.PrintWords Go.Proofs.YteeodaggfaebdaaW.PrintLast Go.Proofs.YteeodaggfaebdaaW.PrintMore Go.Proofs.Yteeodaggfaebdaa.Plain

theorem l1In_f (x a b : Int) : spec_l1In.f x a b = some (inB x a b) := by
  unfold spec_l1In.f inB
  by_cases h : x ≥ a
  · rw [if_pos h]; congr 1; simp [h]
  · rw [if_neg h]; congr 1; simp; omega

theorem coloursOk_f (x : Int) : impl_coloursOk.f x = some (colB x) := by
  unfold impl_coloursOk.f colB
  by_cases h : x ≥ 1
  · rw [if_pos h]; congr 1; simp [h]
  · rw [if_neg h]; congr 1; simp; omega

theorem toIntS_set (l : List Int) (i : Nat) (h : i < l.length) : (l.take i ++ List.replicate (l.length - i) 0).set i (rd l (i : Int)) = l.take (i + 1) ++ List.replicate (l.length - (i + 1)) 0 := by
  rw [take_rd l i h, List.set_append_right _ _ (by rw [List.length_take]; omega)]
  have e : l.length - i = (l.length - (i + 1)) + 1 := by omega
  rw [e, List.replicate_succ, List.length_take, Nat.min_eq_left (by omega), Nat.sub_self, List.set_cons_zero, List.append_assoc]
  rfl
theorem toIntS_loop (l : List Int) (hl : l.length ≤ 1000000000) (d : Nat) : ∀ i : Nat, i + d = l.length → Ev (fun k => laws_toIntS.l0 k l (l.take i ++ List.replicate (l.length - i) 0) (i : Int)) l := by
  induction d with
  | zero =>
    intro i hi
    refine Ev.step (fun _ => rfl) ?_
    refine ev_neg (by omega) ?_
    have : i = l.length := by omega
    subst this
    refine ev_eq (Ev.now _) ?_
    simp
  | succ d ih =>
    intro i hi
    refine Ev.step (fun _ => rfl) ?_
    refine ev_pos (by omega) (ev_pos (by omega) (ev_pos (by simp; omega) ?_))
    rw [show ((i : Int)).toNat = i from by simp, toIntS_set l i (by omega), w64n i (by omega)]
    exact ih (i + 1) (by omega)
theorem toIntS_ev (l : List Int) (hl : l.length ≤ 1000000000) : Ev (fun k => laws_toIntS.f k l) l := by
  unfold laws_toIntS.f
  refine ev_pos (by omega) (ev_pos (by simp; omega) ?_)
  have := toIntS_loop l hl l.length 0 (by omega)
  simpa using this

theorem eqIntS_loop (l : List Int) (hl : l.length ≤ 1000000000) (d : Nat) : ∀ i : Nat, i + d = l.length → Ev (fun k => laws_eqIntS.l0 k l l (i : Int)) true := by
  induction d with
  | zero =>
    intro i hi
    refine Ev.step (fun _ => rfl) ?_
    exact ev_neg (by omega) (Ev.now _)
  | succ d ih =>
    intro i hi
    refine Ev.step (fun _ => rfl) ?_
    refine ev_pos (by omega) (ev_pos (by omega) (ev_pos (by omega) (ev_pos rfl ?_)))
    rw [w64n i (by omega)]
    exact ih (i + 1) (by omega)
theorem eqIntS_ev (l : List Int) (hl : l.length ≤ 1000000000) : Ev (fun k => laws_eqIntS.f k l l) true := by
  unfold laws_eqIntS.f
  exact ev_pos rfl (eqIntS_loop l hl l.length 0 (by omega))

theorem implUrnOk_loop (l : List Int) (hl : l.length ≤ 1000000000) (d : Nat) : ∀ i : Nat, i + d = l.length → Ev (fun k => impl_UrnOk.l0 k l l (l.length : Int) (i : Int)) ((l.drop i).all urnE && colB l.length) := by
  induction d with
  | zero =>
    intro i hi
    refine Ev.step (fun _ => rfl) ?_
    refine ev_neg (by omega) ?_
    rw [coloursOk_f, List.drop_eq_nil_of_le (by omega)]
    exact Ev.now _
  | succ d ih =>
    intro i hi
    refine Ev.step (fun _ => rfl) ?_
    refine ev_pos (by omega) (ev_pos (by omega) (ev_pos (by omega) ?_))
    rw [drop_rd l i (by omega), List.all_cons]
    by_cases h1 : rd l (i : Int) < 0
    · refine ev_pos h1 (ev_eq (Ev.now _) ?_)
      rw [show urnE (rd l (i : Int)) = false from by simp [urnE]; omega]; rfl
    · refine ev_neg h1 ?_
      by_cases h2 : rd l (i : Int) > 40
      · refine ev_pos h2 (ev_eq (Ev.now _) ?_)
        rw [show urnE (rd l (i : Int)) = false from by simp [urnE]; omega]; rfl
      · refine ev_neg h2 ?_
        rw [w64n i (by omega), show urnE (rd l (i : Int)) = true from by simp [urnE]; omega, Bool.true_and]
        exact ih (i + 1) (by omega)
theorem implUrnOk_ev (l : List Int) (hl : l.length ≤ 1000000000) : Ev (fun k => impl_UrnOk.f k l) (urnB l) := by
  unfold impl_UrnOk.f
  exact implUrnOk_loop l hl l.length 0 (by omega)

theorem specUrnOk_loop (l : List Int) (hl : l.length ≤ 1000000000) (d : Nat) : ∀ i : Nat, i + d = l.length → Ev (fun k => spec_UrnOk.l0 k l (i : Int)) ((l.drop i).all urnE && colB l.length) := by
  induction d with
  | zero =>
    intro i hi
    refine Ev.step (fun _ => rfl) ?_
    refine ev_neg (by omega) ?_
    rw [l1In_f, List.drop_eq_nil_of_le (by omega)]
    exact Ev.now _
  | succ d ih =>
    intro i hi
    refine Ev.step (fun _ => rfl) ?_
    refine ev_pos (by omega) (ev_pos (by omega) ?_)
    rw [drop_rd l i (by omega), List.all_cons, l1In_f, show inB (rd l (i : Int)) 0 40 = urnE (rd l (i : Int)) from rfl]
    cases h : urnE (rd l (i : Int)) with
    | false => exact Ev.now _
    | true =>
      simp only [Option.bind_some, if_true, Bool.true_and]
      rw [w64n i (by omega)]
      exact ih (i + 1) (by omega)
theorem specUrnOk_ev (l : List Int) (hl : l.length ≤ 1000000000) : Ev (fun k => spec_UrnOk.f k l) (urnB l) := by
  unfold spec_UrnOk.f
  exact specUrnOk_loop l hl l.length 0 (by omega)

theorem markIntS_set (l : List Int) (k : Int) (i : Nat) (h : i < l.length) : (iota k i ++ l.drop i).set i (k + i) = iota k (i + 1) ++ l.drop (i + 1) := by
  rw [List.set_append_right _ _ (by rw [iota_length]; omega), iota_length, Nat.sub_self, drop_rd l i h, List.set_cons_zero, iota_snoc, List.append_assoc]
  rfl
theorem markIntS_loop (l : List Int) (q : Int) (hq0 : 0 ≤ q) (hq : q ≤ 1000000000) (hl : l.length ≤ 1000000000) (d : Nat) : ∀ i : Nat, i + d = l.length → Ev (fun k => laws_markIntS.l0 k (iota q i ++ l.drop i) (q + i) (i : Int)) (q + l.length, iota q l.length) := by
  induction d with
  | zero =>
    intro i hi
    refine Ev.step (fun _ => rfl) ?_
    refine ev_neg (by rw [List.length_append, iota_length, List.length_drop]; omega) (ev_eq (Ev.now _) ?_)
    rw [List.drop_eq_nil_of_le (by omega), List.append_nil, show i = l.length by omega]
  | succ d ih =>
    intro i hi
    refine Ev.step (fun _ => rfl) ?_
    refine ev_pos (by rw [List.length_append, iota_length, List.length_drop]; omega) (ev_pos (by omega) ?_)
    rw [show ((i : Int)).toNat = i from by simp, markIntS_set l q i (by omega), w64n i (by omega), w64 (by omega) (by omega), show q + (i : Int) + 1 = q + ((i + 1 : Nat) : Int) from by omega]
    exact ih (i + 1) (by omega)
theorem markIntS_ev (l : List Int) (q : Int) (hq0 : 0 ≤ q) (hq : q ≤ 1000000000) (hl : l.length ≤ 1000000000) : Ev (fun k => laws_markIntS.f k l q) (q + l.length, iota q l.length) := by
  unfold laws_markIntS.f
  have := markIntS_loop l q hq0 hq hl l.length 0 (by omega)
  simpa [iota] using this

theorem heldIntS_loop (n : Nat) (q : Int) (hq0 : 0 ≤ q) (hq : q ≤ 1000000000) (hl : n ≤ 1000000000) (d : Nat) : ∀ i : Nat, i + d = n → Ev (fun k => laws_heldIntS.l0 k (iota q n) (q + i) (i : Int)) (q + n) := by
  induction d with
  | zero =>
    intro i hi
    refine Ev.step (fun _ => rfl) ?_
    refine ev_neg (by rw [iota_length]; omega) (ev_eq (Ev.now _) ?_)
    rw [show i = n by omega]
  | succ d ih =>
    intro i hi
    refine Ev.step (fun _ => rfl) ?_
    refine ev_pos (by rw [iota_length]; omega) (ev_pos (by omega) (ev_pos (iota_rd n q i (by omega)) ?_))
    rw [w64n i (by omega), w64 (by omega) (by omega), show q + (i : Int) + 1 = q + ((i + 1 : Nat) : Int) from by omega]
    exact ih (i + 1) (by omega)
theorem heldIntS_ev (n : Nat) (q : Int) (hq0 : 0 ≤ q) (hq : q ≤ 1000000000) (hl : n ≤ 1000000000) : Ev (fun k => laws_heldIntS.f k (iota q n) q) (q + n) := by
  unfold laws_heldIntS.f
  have := heldIntS_loop n q hq0 hq hl n 0 (by omega)
  simpa using this

theorem Clone_f (l : List Int) (hl : l.length ≤ 1000000000) : slices_Clone_int_int.f l = some l := by
  unfold slices_Clone_int_int.f
  simp only [Option.bind_some]
  rw [if_pos (by simp; omega)]; rfl

theorem implAdded_set (a b : List Int) (h : b.length = a.length) (i : Nat) (hi : i < b.length) : ((addL a b).take i ++ a.drop i).set i (rd ((addL a b).take i ++ a.drop i) (i : Int) + rd b (i : Int)) = (addL a b).take (i + 1) ++ a.drop (i + 1) := by
  have hl := addL_length a b h
  have e1 : ((addL a b).take i).length = i := by rw [List.length_take]; omega
  have e2 : rd ((addL a b).take i ++ a.drop i) (i : Int) = rd a (i : Int) := by
    rw [rd_nat _ i (by rw [List.length_append, e1, List.length_drop]; omega), rd_nat a i (by omega), List.getElem_append_right (by omega)]
    simp only [e1, Nat.sub_self, List.getElem_drop, Nat.add_zero]
  rw [e2, List.set_append_right _ _ (by omega), e1, Nat.sub_self, drop_rd a i (by omega), List.set_cons_zero, take_rd (addL a b) i (by omega), addL_rd a b i (by omega) h, List.append_assoc]
  rfl
theorem implAdded_loop (a b : List Int) (h : b.length = a.length) (hl : b.length ≤ 1000) (hb : ∀ i : Nat, i < b.length → -1000000 ≤ rd a i + rd b i ∧ rd a i + rd b i ≤ 1000000) (d : Nat) : ∀ i : Nat, i + d = b.length → Ev (fun k => impl_added.l0 k ((addL a b).take i ++ a.drop i) b (b.length : Int) (i : Int)) (addL a b) := by
  have hla := addL_length a b h
  induction d with
  | zero =>
    intro i hi
    refine Ev.step (fun _ => rfl) ?_
    refine ev_neg (by omega) (ev_eq (Ev.now _) ?_)
    rw [List.take_of_length_le (by omega), List.drop_eq_nil_of_le (by omega), List.append_nil]
  | succ d ih =>
    intro i hi
    refine Ev.step (fun _ => rfl) ?_
    refine ev_pos (by omega) (ev_pos (by omega) (ev_pos (by omega) (ev_pos (by rw [List.length_append, List.length_take, List.length_drop]; omega) ?_)))
    have e1 : ((addL a b).take i).length = i := by rw [List.length_take]; omega
    have e2 : rd ((addL a b).take i ++ a.drop i) (i : Int) = rd a (i : Int) := by
      rw [rd_nat _ i (by rw [List.length_append, e1, List.length_drop]; omega), rd_nat a i (by omega), List.getElem_append_right (by omega)]
      simp only [e1, Nat.sub_self, List.getElem_drop, Nat.add_zero]
    have hbi := hb i (by omega)
    rw [w64n i (by omega), w64 (by rw [e2]; omega) (by rw [e2]; omega), show ((i : Int)).toNat = i from by simp, implAdded_set a b h i (by omega)]
    exact ih (i + 1) (by omega)
theorem implAdded_ev (a b : List Int) (h : b.length = a.length) (hl : b.length ≤ 1000) (hb : ∀ i : Nat, i < b.length → -1000000 ≤ rd a i + rd b i ∧ rd a i + rd b i ≤ 1000000) : Ev (fun k => impl_added.f k a b) (addL a b) := by
  unfold impl_added.f
  rw [Clone_f a (by omega)]
  refine Ev.bind (Ev.now _) ?_
  have := implAdded_loop a b h hl hb b.length 0 (by omega)
  simpa using this

theorem specPouredUrn_loop (a b : List Int) (ha : ∀ x ∈ a, 0 ≤ x ∧ x ≤ 40) (hb : ∀ x ∈ b, 0 ≤ x ∧ x ≤ 40) (hl : a.length ≤ 3) (h : b.length = a.length) (d : Nat) : ∀ i : Nat, i + d = a.length → Ev (fun k => spec_PouredUrn.l0 k a b ((addL a b).take i) (i : Int)) (if urnB (addL a b) = true then (addL a b, true) else ([], false)) := by
  have hla := addL_length a b h
  induction d with
  | zero =>
    intro i hi
    refine Ev.step (fun _ => rfl) ?_
    refine ev_neg (by omega) ?_
    rw [List.take_of_length_le (by omega)]
    refine Ev.bind (specUrnOk_ev _ (by omega)) ?_
    by_cases h6 : urnB (addL a b) = true
    · refine ev_pos h6 ?_; rw [if_pos h6]; exact Ev.now _
    · refine ev_neg h6 ?_; rw [if_neg h6]; exact Ev.now _
  | succ d ih =>
    intro i hi
    refine Ev.step (fun _ => rfl) ?_
    refine ev_pos (by omega) (ev_pos (by omega) (ev_pos (by omega) (ev_pos (by rw [List.length_take]; omega) ?_)))
    have h2 := ha _ (rd_mem a i (by omega)); have h3 := hb _ (rd_mem b i (by omega))
    rw [w64n i (by omega), w64 (by omega) (by omega), ← addL_rd a b i (by omega) h, ← take_rd _ i (by omega)]
    exact ih (i + 1) (by omega)
theorem specPouredUrn_ev (a b : List Int) (ha : a.length ≤ 1000000000) (hb : b.length ≤ 1000000000) : Ev (fun k => spec_PouredUrn.f k a b) (pourP a b) := by
  have no : Ev (fun k => spec_PouredUrn.j0 k a b true) ([], false) := Ev.step (fun _ => rfl) (Ev.now _)
  unfold spec_PouredUrn.f pourP
  refine Ev.bind (specUrnOk_ev a ha) ?_
  by_cases h : urnB a = true
  · refine ev_pos h (Ev.bind (specUrnOk_ev b hb) ?_)
    by_cases h2 : urnB b = true
    · refine ev_pos h2 ?_
      obtain ⟨a1, a2, a3⟩ := urnB_bounds h
      obtain ⟨b1, b2, b3⟩ := urnB_bounds h2
      by_cases h3 : a.length = b.length
      · rw [show ((a.length : Int) != (b.length : Int)) = false from by simp [h3]]
        have := specPouredUrn_loop a b a1 b1 a3 h3.symm a.length 0 (by omega)
        refine Ev.step (fun _ => rfl) (ev_eq this ?_)
        by_cases h6 : urnB (addL a b) = true
        · rw [if_pos h6, if_pos ⟨⟨h, h2, h3⟩, h6⟩]
        · rw [if_neg h6, if_neg (fun hh => h6 hh.2)]
      · rw [show ((a.length : Int) != (b.length : Int)) = true from by simp; omega, if_neg (fun hh => h3 hh.1.2.2)]
        exact no
    · refine ev_neg h2 ?_
      rw [if_neg (fun hh => h2 hh.1.2.1)]; exact no
  · refine ev_neg h ?_
    rw [if_neg (fun hh => h hh.1.1)]; exact no

theorem implPouredUrn_ev (a b : List Int) (ha : a.length ≤ 1000000000) (hb : b.length ≤ 1000000000) : Ev (fun k => impl_PouredUrn.f k a b) (pourP a b) := by
  have no : Ev (fun k => impl_PouredUrn.j0 k a b true) ([], false) := Ev.step (fun _ => rfl) (Ev.now _)
  unfold impl_PouredUrn.f pourP
  refine Ev.bind (implUrnOk_ev a ha) ?_
  by_cases h : urnB a = true
  · refine ev_pos h (Ev.bind (implUrnOk_ev b hb) ?_)
    by_cases h2 : urnB b = true
    · refine ev_pos h2 ?_
      obtain ⟨a1, a2, a3⟩ := urnB_bounds h
      obtain ⟨b1, b2, b3⟩ := urnB_bounds h2
      by_cases h3 : a.length = b.length
      · rw [show ((a.length : Int) != (b.length : Int)) = false from by simp [h3]]
        refine Ev.step (fun _ => by rw [impl_PouredUrn.j0]) ?_
        refine ev_neg (by simp) ?_
        refine Ev.bind (implAdded_ev a b h3.symm (by omega) (fun i hi => ?_)) ?_
        · have e1 := a1 _ (rd_mem a i (by omega)); have e2 := b1 _ (rd_mem b i hi)
          omega
        · refine Ev.bind (implUrnOk_ev _ (by rw [addL_length a b h3.symm]; omega)) ?_
          by_cases h6 : urnB (addL a b) = true
          · refine ev_pos h6 ?_; rw [if_pos ⟨⟨h, h2, h3⟩, h6⟩]; exact Ev.now _
          · refine ev_neg h6 ?_; rw [if_neg (fun hh => h6 hh.2)]; exact Ev.now _
      · rw [show ((a.length : Int) != (b.length : Int)) = true from by simp; omega, if_neg (fun hh => h3 hh.1.2.2)]
        exact no
    · refine ev_neg h2 ?_
      rw [if_neg (fun hh => h2 hh.1.2.1)]; exact no
  · refine ev_neg h ?_
    rw [if_neg (fun hh => h hh.1.1)]; exact no

theorem FnExactPouredUrn : laws_FnExactPouredUrn.Pure := by
  intro a b ha0 _ _ hb0 _ _
  refine Ev.rounds (g := fun k => laws_FnExactPouredUrn.f k a b) ?_
  unfold laws_FnExactPouredUrn.f
  by_cases h : (a.length : Int) > 1048576
  · exact ev_pos h (Ev.now _)
  refine ev_neg h ?_
  by_cases h' : (b.length : Int) > 1048576
  · exact ev_pos h' (Ev.now _)
  refine ev_neg h' ?_
  have hla : a.length ≤ 1000000000 := by omega
  have hlb : b.length ≤ 1000000000 := by omega
  have hs := specPouredUrn_ev a b hla hlb
  have hi := implPouredUrn_ev a b hla hlb
  have hgl := pourP_len a b
  generalize pourP a b = g at hs hi hgl
  obtain ⟨g, ok⟩ := g
  simp only at hgl
  have hge := eqIntS_ev g (by omega)
  have hta := toIntS_ev a hla
  have htb := toIntS_ev b hlb
  have hm := markIntS_ev g 1 (by omega) (by omega) (by omega)
  have hh := heldIntS_ev g.length 1 (by omega) (by omega) (by omega)
  refine Ev.bind hta (Ev.bind htb (Ev.bind hs (Ev.bind hta (Ev.bind htb (Ev.bind hi (Ev.bind hge (ev_pos rfl ?_)))))))
  refine Ev.step (fun _ => by rw [laws_FnExactPouredUrn.j0]) ?_
  refine ev_neg (by simp) ?_
  refine Ev.bind hta (Ev.bind (eqIntS_ev a hla) (ev_pos rfl (Ev.bind htb (Ev.bind (eqIntS_ev b hlb) (ev_pos rfl (Ev.bind (markIntS_ev a 1 (by omega) (by omega) hla) (Ev.bind (markIntS_ev b _ (by omega) (by omega) hlb) (ev_neg (by simp; omega) (Ev.bind hge (ev_pos rfl ?_))))))))))
  refine Ev.step (fun _ => by rw [laws_FnExactPouredUrn.j1]) ?_
  refine ev_neg (by simp) ?_
  refine Ev.bind hm (Ev.bind hh (ev_neg (by omega) (ev_pos rfl (Ev.bind hta (Ev.bind htb (Ev.bind hi (Ev.bind hge (ev_pos rfl ?_))))))))
  refine Ev.step (fun _ => by rw [laws_FnExactPouredUrn.j2]) ?_
  refine ev_neg (by simp) ?_
  exact Ev.bind hh (ev_neg (by omega) (ev_pos rfl (Ev.now _)))

end Go.Proofs.Yteeodaggfaebdaa.Pure
