/- The law FnExactCountsOf: for every input the printed function of the law answers true. No condition. -/
import Derived.Test.YtieiflieppmboaaPFnExactCountsOfx2
import Derived.Test.YtieiflieppmboaaPlain
set_option linter.unusedVariables false
set_option linter.unusedSimpArgs false
namespace Go.Proofs.Ytieiflieppmboaa.Pure
open Go.RowKit Go.Proofs.Ytieiflieppmboaa.PFnExactCountsOf Go.Proofs.YtieiflieppmboaaW.PrintWords Go.Proofs.YtieiflieppmboaaW.PrintLast Go.Proofs.YtieiflieppmboaaW.PrintMore Go.Proofs.Ytieiflieppmboaa.Plain

theorem l1In_f (x a b : Int) : spec_l1In.f x a b = some (inB x a b) := by
  unfold spec_l1In.f inB
  by_cases h : x ≥ a
  · rw [if_pos h]; congr 1; simp [h]
  · rw [if_neg h]; congr 1; simp; omega

theorem coloursOk_f (x : Int) : impl_coloursOk.f x = some (colB x) := by
  unfold impl_coloursOk.f colB
  by_cases h : x ≥ 1
  · rw [if_pos h]; congr 1; simp [h]
  · rw [if_neg h]; congr 1; simp; omega

theorem toIntS_set (l : List Int) (i : Nat) (h : i < l.length) : (l.take i ++ List.replicate (l.length - i) 0).set i (rd l (i : Int)) = l.take (i + 1) ++ List.replicate (l.length - (i + 1)) 0 := by
  rw [take_rd l i h, List.set_append_right _ _ (by rw [List.length_take]; omega)]
  have e : l.length - i = (l.length - (i + 1)) + 1 := by omega
  rw [e, List.replicate_succ, List.length_take, Nat.min_eq_left (by omega), Nat.sub_self, List.set_cons_zero, List.append_assoc]
  rfl
theorem toIntS_loop (l : List Int) (hl : l.length ≤ 1000000000) (d : Nat) : ∀ i : Nat, i + d = l.length → Ev (fun k => laws_toIntS.l0 k l (l.take i ++ List.replicate (l.length - i) 0) (i : Int)) l := by
  induction d with
  | zero =>
    intro i hi
    refine Ev.step (fun _ => rfl) ?_
    refine ev_neg (by omega) ?_
    have : i = l.length := by omega
    subst this
    refine ev_eq (Ev.now _) ?_
    simp
  | succ d ih =>
    intro i hi
    refine Ev.step (fun _ => rfl) ?_
    refine ev_pos (by omega) (ev_pos (by omega) (ev_pos (by simp; omega) ?_))
    rw [show ((i : Int)).toNat = i from by simp, toIntS_set l i (by omega), w64n i (by omega)]
    exact ih (i + 1) (by omega)
theorem toIntS_ev (l : List Int) (hl : l.length ≤ 1000000000) : Ev (fun k => laws_toIntS.f k l) l := by
  unfold laws_toIntS.f
  refine ev_pos (by omega) (ev_pos (by simp; omega) ?_)
  have := toIntS_loop l hl l.length 0 (by omega)
  simpa using this

theorem eqIntS_loop (l : List Int) (hl : l.length ≤ 1000000000) (d : Nat) : ∀ i : Nat, i + d = l.length → Ev (fun k => laws_eqIntS.l0 k l l (i : Int)) true := by
  induction d with
  | zero =>
    intro i hi
    refine Ev.step (fun _ => rfl) ?_
    exact ev_neg (by omega) (Ev.now _)
  | succ d ih =>
    intro i hi
    refine Ev.step (fun _ => rfl) ?_
    refine ev_pos (by omega) (ev_pos (by omega) (ev_pos (by omega) (ev_pos rfl ?_)))
    rw [w64n i (by omega)]
    exact ih (i + 1) (by omega)
theorem eqIntS_ev (l : List Int) (hl : l.length ≤ 1000000000) : Ev (fun k => laws_eqIntS.f k l l) true := by
  unfold laws_eqIntS.f
  exact ev_pos rfl (eqIntS_loop l hl l.length 0 (by omega))

theorem implWordOk_loop (c : Int) (l : List Int) (hl : l.length ≤ 1000000000) (d : Nat) : ∀ i : Nat, i + d = l.length → Ev (fun k => impl_WordOk.l0 k c l l (l.length : Int) (i : Int)) ((l.drop i).all (fun x => decide (0 ≤ x ∧ x < c)) && (colB c && decide ((l.length : Int) ≤ 6))) := by
  induction d with
  | zero =>
    intro i hi
    refine Ev.step (fun _ => rfl) ?_
    refine ev_neg (by omega) ?_
    rw [coloursOk_f, List.drop_eq_nil_of_le (by omega)]
    cases h : colB c <;> exact Ev.now _
  | succ d ih =>
    intro i hi
    refine Ev.step (fun _ => rfl) ?_
    refine ev_pos (by omega) (ev_pos (by omega) (ev_pos (by omega) ?_))
    rw [drop_rd l i (by omega), List.all_cons]
    by_cases h1 : rd l (i : Int) < 0
    · refine ev_pos h1 (ev_eq (Ev.now _) ?_)
      rw [show decide (0 ≤ rd l (i : Int) ∧ rd l (i : Int) < c) = false from by simp; omega]; rfl
    · refine ev_neg h1 ?_
      by_cases h2 : rd l (i : Int) ≥ c
      · refine ev_pos h2 (ev_eq (Ev.now _) ?_)
        rw [show decide (0 ≤ rd l (i : Int) ∧ rd l (i : Int) < c) = false from by simp; omega]; rfl
      · refine ev_neg h2 ?_
        rw [w64n i (by omega), show decide (0 ≤ rd l (i : Int) ∧ rd l (i : Int) < c) = true from by simp; omega, Bool.true_and]
        exact ih (i + 1) (by omega)
theorem implWordOk_ev (c : Int) (l : List Int) (hl : l.length ≤ 1000000000) : Ev (fun k => impl_WordOk.f k c l) (wordB c l) := by
  unfold impl_WordOk.f
  exact implWordOk_loop c l hl l.length 0 (by omega)

theorem specWordOk_loop (c : Int) (l : List Int) (hl : l.length ≤ 1000000000) (d : Nat) : ∀ i : Nat, i + d = l.length → Ev (fun k => spec_WordOk.l0 k c l (i : Int)) ((l.drop i).all (fun x => decide (0 ≤ x ∧ x < c)) && (colB c && decide ((l.length : Int) ≤ 6))) := by
  induction d with
  | zero =>
    intro i hi
    refine Ev.step (fun _ => rfl) ?_
    refine ev_neg (by omega) ?_
    rw [l1In_f, List.drop_eq_nil_of_le (by omega), show inB c 1 3 = colB c from rfl]
    cases h : colB c <;> exact Ev.now _
  | succ d ih =>
    intro i hi
    refine Ev.step (fun _ => rfl) ?_
    refine ev_pos (by omega) (ev_pos (by omega) ?_)
    rw [drop_rd l i (by omega), List.all_cons]
    by_cases h1 : rd l (i : Int) < 0
    · refine ev_pos h1 (ev_eq (Ev.now _) ?_)
      rw [show decide (0 ≤ rd l (i : Int) ∧ rd l (i : Int) < c) = false from by simp; omega]; rfl
    · refine ev_neg h1 ?_
      by_cases h2 : rd l (i : Int) ≥ c
      · refine ev_pos h2 (ev_eq (Ev.now _) ?_)
        rw [show decide (0 ≤ rd l (i : Int) ∧ rd l (i : Int) < c) = false from by simp; omega]; rfl
      · refine ev_neg h2 ?_
        rw [w64n i (by omega), show decide (0 ≤ rd l (i : Int) ∧ rd l (i : Int) < c) = true from by simp; omega, Bool.true_and]
        exact ih (i + 1) (by omega)
theorem specWordOk_ev (c : Int) (l : List Int) (hl : l.length ≤ 1000000000) : Ev (fun k => spec_WordOk.f k c l) (wordB c l) := by
  unfold spec_WordOk.f
  exact specWordOk_loop c l hl l.length 0 (by omega)

theorem cstep_wrap (ws : List Int) (hl : ws.length ≤ 6) (c : Nat) (hw : ∀ x ∈ ws, 0 ≤ x ∧ x < (c : Int)) (i : Nat) (hi : i < ws.length) :
    (rd ws (i : Int) < ((((ws.take i).foldl cstep (List.replicate c 0)).length : Nat) : Int)) ∧
    ((ws.take i).foldl cstep (List.replicate c 0)).set (rd ws (i : Int)).toNat (wrap64 (rd ((ws.take i).foldl cstep (List.replicate c 0)) (rd ws (i : Int)) + 1)) = (ws.take (i + 1)).foldl cstep (List.replicate c 0) := by
  have hc := hw _ (rd_mem ws i hi)
  have hlen : ((ws.take i).foldl cstep (List.replicate c 0)).length = c := by rw [foldl_cstep_length, List.length_replicate]
  have hb := cntsOf_bound c (ws.take i) _ (rd_range ((ws.take i).foldl cstep (List.replicate c 0)) (rd ws (i : Int)) hc.1 (by rw [hlen]; exact hc.2))
  have ht : ((ws.take i).length : Int) ≤ 6 := by rw [List.length_take]; omega
  refine ⟨by rw [hlen]; exact hc.2, ?_⟩
  rw [w64 (by omega) (by omega), take_rd ws i hi, List.foldl_append]
  rfl

theorem implCountsOf_loop (ws : List Int) (hl : ws.length ≤ 6) (c : Nat) (hw : ∀ x ∈ ws, 0 ≤ x ∧ x < (c : Int)) (d : Nat) : ∀ i : Nat, i + d = ws.length → Ev (fun k => impl_CountsOf.l0 k ((ws.take i).foldl cstep (List.replicate c 0)) ws (ws.length : Int) (i : Int)) (cntsOf c ws) := by
  induction d with
  | zero =>
    intro i hi
    refine Ev.step (fun _ => rfl) ?_
    refine ev_neg (by omega) (ev_eq (Ev.now _) ?_)
    rw [List.take_of_length_le (by omega)]; rfl
  | succ d ih =>
    intro i hi
    refine Ev.step (fun _ => rfl) ?_
    have hc := hw _ (rd_mem ws i (by omega))
    obtain ⟨e1, e2⟩ := cstep_wrap ws hl c hw i (by omega)
    refine ev_pos (by omega) (ev_pos (by omega) (ev_pos (by omega) (ev_pos hc.1 (ev_pos e1 ?_))))
    rw [w64n i (by omega), e2]
    exact ih (i + 1) (by omega)
theorem implCountsOf_ev (c : Int) (ws : List Int) (hl : ws.length ≤ 1000000000) : Ev (fun k => impl_CountsOf.f k c ws) (if wordB c ws = true then cntsOf c.toNat ws else []) := by
  unfold impl_CountsOf.f
  refine Ev.bind (implWordOk_ev c ws hl) ?_
  by_cases h : wordB c ws = true
  · rw [if_pos h]
    obtain ⟨h1, h2, h3, h4⟩ := wordB_bounds h
    refine ev_pos h (ev_pos (by omega) (ev_pos (by omega) ?_))
    exact implCountsOf_loop ws h4 c.toNat (fun x hx => by have := h1 x hx; omega) ws.length 0 (by omega)
  · rw [if_neg h]
    exact ev_neg h (Ev.now _)

theorem specCountsOf_loop (ws : List Int) (hl : ws.length ≤ 6) (c : Nat) (hw : ∀ x ∈ ws, 0 ≤ x ∧ x < (c : Int)) (d : Nat) : ∀ i : Nat, i + d = ws.length → Ev (fun k => spec_l2Counts.l0 k ws ((ws.take i).foldl cstep (List.replicate c 0)) (i : Int)) (cntsOf c ws) := by
  induction d with
  | zero =>
    intro i hi
    refine Ev.step (fun _ => rfl) ?_
    refine ev_neg (by omega) (ev_eq (Ev.now _) ?_)
    rw [List.take_of_length_le (by omega)]; rfl
  | succ d ih =>
    intro i hi
    refine Ev.step (fun _ => rfl) ?_
    have hc := hw _ (rd_mem ws i (by omega))
    obtain ⟨e1, e2⟩ := cstep_wrap ws hl c hw i (by omega)
    refine ev_pos (by omega) (ev_pos (by omega) (ev_pos hc.1 (ev_pos e1 ?_)))
    rw [w64n i (by omega), e2]
    exact ih (i + 1) (by omega)
theorem specCountsOf_ev (c : Int) (ws : List Int) (hl : ws.length ≤ 1000000000) : Ev (fun k => spec_CountsOf.f k c ws) (if wordB c ws = true then cntsOf c.toNat ws else []) := by
  unfold spec_CountsOf.f
  refine Ev.bind (specWordOk_ev c ws hl) ?_
  by_cases h : wordB c ws = true
  · rw [if_pos h]
    obtain ⟨h1, h2, h3, h4⟩ := wordB_bounds h
    refine ev_pos h (Ev.bind (g := fun k => spec_l2Counts.f k c ws) (a := cntsOf c.toNat ws) ?_ (Ev.now _))
    unfold spec_l2Counts.f
    refine ev_pos (by omega) (ev_pos (by omega) ?_)
    exact specCountsOf_loop ws h4 c.toNat (fun x hx => by have := h1 x hx; omega) ws.length 0 (by omega)
  · rw [if_neg h]
    exact ev_neg h (Ev.now _)

theorem markIntS_set (l : List Int) (k : Int) (i : Nat) (h : i < l.length) : (iota k i ++ l.drop i).set i (k + i) = iota k (i + 1) ++ l.drop (i + 1) := by
  rw [List.set_append_right _ _ (by rw [iota_length]; omega), iota_length, Nat.sub_self, drop_rd l i h, List.set_cons_zero, iota_snoc, List.append_assoc]
  rfl
theorem markIntS_loop (l : List Int) (q : Int) (hq0 : 0 ≤ q) (hq : q ≤ 1000000000) (hl : l.length ≤ 1000000000) (d : Nat) : ∀ i : Nat, i + d = l.length → Ev (fun k => laws_markIntS.l0 k (iota q i ++ l.drop i) (q + i) (i : Int)) (q + l.length, iota q l.length) := by
  induction d with
  | zero =>
    intro i hi
    refine Ev.step (fun _ => rfl) ?_
    refine ev_neg (by rw [List.length_append, iota_length, List.length_drop]; omega) (ev_eq (Ev.now _) ?_)
    rw [List.drop_eq_nil_of_le (by omega), List.append_nil, show i = l.length by omega]
  | succ d ih =>
    intro i hi
    refine Ev.step (fun _ => rfl) ?_
    refine ev_pos (by rw [List.length_append, iota_length, List.length_drop]; omega) (ev_pos (by omega) ?_)
    rw [show ((i : Int)).toNat = i from by simp, markIntS_set l q i (by omega), w64n i (by omega), w64 (by omega) (by omega), show q + (i : Int) + 1 = q + ((i + 1 : Nat) : Int) from by omega]
    exact ih (i + 1) (by omega)
theorem markIntS_ev (l : List Int) (q : Int) (hq0 : 0 ≤ q) (hq : q ≤ 1000000000) (hl : l.length ≤ 1000000000) : Ev (fun k => laws_markIntS.f k l q) (q + l.length, iota q l.length) := by
  unfold laws_markIntS.f
  have := markIntS_loop l q hq0 hq hl l.length 0 (by omega)
  simpa [iota] using this

theorem heldIntS_loop (n : Nat) (q : Int) (hq0 : 0 ≤ q) (hq : q ≤ 1000000000) (hl : n ≤ 1000000000) (d : Nat) : ∀ i : Nat, i + d = n → Ev (fun k => laws_heldIntS.l0 k (iota q n) (q + i) (i : Int)) (q + n) := by
  induction d with
  | zero =>
    intro i hi
    refine Ev.step (fun _ => rfl) ?_
    refine ev_neg (by rw [iota_length]; omega) (ev_eq (Ev.now _) ?_)
    rw [show i = n by omega]
  | succ d ih =>
    intro i hi
    refine Ev.step (fun _ => rfl) ?_
    refine ev_pos (by rw [iota_length]; omega) (ev_pos (by omega) (ev_pos (iota_rd n q i (by omega)) ?_))
    rw [w64n i (by omega), w64 (by omega) (by omega), show q + (i : Int) + 1 = q + ((i + 1 : Nat) : Int) from by omega]
    exact ih (i + 1) (by omega)
theorem heldIntS_ev (n : Nat) (q : Int) (hq0 : 0 ≤ q) (hq : q ≤ 1000000000) (hl : n ≤ 1000000000) : Ev (fun k => laws_heldIntS.f k (iota q n) q) (q + n) := by
  unfold laws_heldIntS.f
  have := heldIntS_loop n q hq0 hq hl n 0 (by omega)
  simpa using this

theorem FnExactCountsOf : laws_FnExactCountsOf.Pure := by
  intro c w _ hw0 _ _
  refine Ev.rounds (g := fun k => laws_FnExactCountsOf.f k c w) ?_
  unfold laws_FnExactCountsOf.f
  by_cases h : (w.length : Int) > 1048576
  · exact ev_pos h (Ev.now _)
  refine ev_neg h ?_
  have hw : w.length ≤ 1000000000 := by omega
  obtain ⟨g, hg⟩ : ∃ g, g = (if wordB c w = true then cntsOf c.toNat w else []) := ⟨_, rfl⟩
  have hi := implCountsOf_ev c w hw
  have hs := specCountsOf_ev c w hw
  have hgl : g.length ≤ 3 := by
    rw [hg]
    by_cases hh : wordB c w = true
    · rw [if_pos hh, cntsOf_length]; have := wordB_bounds hh; omega
    · rw [if_neg hh]; simp
  rw [← hg] at hi hs
  have hge := eqIntS_ev g (by omega)
  refine Ev.bind (toIntS_ev w hw) (Ev.bind hs (Ev.bind (toIntS_ev w hw) (Ev.bind hi (Ev.bind hge ?_))))
  refine ev_pos rfl (Ev.bind (toIntS_ev w hw) (Ev.bind (eqIntS_ev w hw) (ev_pos rfl (Ev.bind (markIntS_ev w 1 (by omega) (by omega) hw) (ev_neg (by simp; omega) (Ev.bind hge ?_))))))
  refine Ev.step (fun _ => rfl) ?_
  have hm := markIntS_ev g 1 (by omega) (by omega) (by omega)
  have hh := heldIntS_ev g.length 1 (by omega) (by omega) (by omega)
  refine Ev.bind hm ?_
  exact (Ev.bind hh (ev_neg (by omega) (ev_pos rfl (Ev.bind (toIntS_ev w hw) (Ev.bind hi (Ev.bind hge (ev_pos rfl (Ev.bind hh (ev_neg (by omega) (ev_pos rfl (Ev.now _)))))))))))

end Go.Proofs.Ytieiflieppmboaa.Pure
