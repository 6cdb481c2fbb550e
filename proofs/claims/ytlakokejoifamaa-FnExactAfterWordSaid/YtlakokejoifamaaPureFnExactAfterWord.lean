/- The law FnExactAfterWord: for every input the printed function of the law answers true. No condition. -/
import Derived.Test.YtlakokejoifamaaPFnExactAfterWordx6
import Derived.Test.YtlakokejoifamaaPlain
set_option linter.unusedVariables false
set_option linter.unusedSimpArgs false
namespace Go.Proofs.Ytlakokejoifamaa.Pure
open Go.RowKit Go.Proofs.Ytlakokejoifamaa.PFnExactAfterWord Go.Proofs.YtlakokejoifamaaW.PrintWords Go.Proofs.YtlakokejoifamaaW.PrintLast Go.Proofs.YtlakokejoifamaaW.PrintMore Go.Proofs.Ytlakokejoifamaa.Plain

theorem l1In_f (x a b : Int) : spec_l1In.f x a b = some (inB x a b) := by
  unfold spec_l1In.f inB
  by_cases h : x ≥ a
  · rw [if_pos h]; congr 1; simp [h]
  · rw [if_neg h]; congr 1; simp; omega

theorem coloursOk_f (x : Int) : impl_coloursOk.f x = some (colB x) := by
  unfold impl_coloursOk.f colB
  by_cases h : x ≥ 1
  · rw [if_pos h]; congr 1; simp [h]
  · rw [if_neg h]; congr 1; simp; omega

theorem toIntS_set (l : List Int) (i : Nat) (h : i < l.length) : (l.take i ++ List.replicate (l.length - i) 0).set i (rd l (i : Int)) = l.take (i + 1) ++ List.replicate (l.length - (i + 1)) 0 := by
  rw [take_rd l i h, List.set_append_right _ _ (by rw [List.length_take]; omega)]
  have e : l.length - i = (l.length - (i + 1)) + 1 := by omega
  rw [e, List.replicate_succ, List.length_take, Nat.min_eq_left (by omega), Nat.sub_self, List.set_cons_zero, List.append_assoc]
  rfl
theorem toIntS_loop (l : List Int) (hl : l.length ≤ 1000000000) (d : Nat) : ∀ i : Nat, i + d = l.length → Ev (fun k => laws_toIntS.l0 k l (l.take i ++ List.replicate (l.length - i) 0) (i : Int)) l := by
  induction d with
  | zero =>
    intro i hi
    refine Ev.step (fun _ => rfl) ?_
    refine ev_neg (by omega) ?_
    have : i = l.length := by omega
    subst this
    refine ev_eq (Ev.now _) ?_
    simp
  | succ d ih =>
    intro i hi
    refine Ev.step (fun _ => rfl) ?_
    refine ev_pos (by omega) (ev_pos (by omega) (ev_pos (by simp; omega) ?_))
    rw [show ((i : Int)).toNat = i from by simp, toIntS_set l i (by omega), w64n i (by omega)]
    exact ih (i + 1) (by omega)
theorem toIntS_ev (l : List Int) (hl : l.length ≤ 1000000000) : Ev (fun k => laws_toIntS.f k l) l := by
  unfold laws_toIntS.f
  refine ev_pos (by omega) (ev_pos (by simp; omega) ?_)
  have := toIntS_loop l hl l.length 0 (by omega)
  simpa using this

theorem eqIntS_loop (l : List Int) (hl : l.length ≤ 1000000000) (d : Nat) : ∀ i : Nat, i + d = l.length → Ev (fun k => laws_eqIntS.l0 k l l (i : Int)) true := by
  induction d with
  | zero =>
    intro i hi
    refine Ev.step (fun _ => rfl) ?_
    exact ev_neg (by omega) (Ev.now _)
  | succ d ih =>
    intro i hi
    refine Ev.step (fun _ => rfl) ?_
    refine ev_pos (by omega) (ev_pos (by omega) (ev_pos (by omega) (ev_pos rfl ?_)))
    rw [w64n i (by omega)]
    exact ih (i + 1) (by omega)
theorem eqIntS_ev (l : List Int) (hl : l.length ≤ 1000000000) : Ev (fun k => laws_eqIntS.f k l l) true := by
  unfold laws_eqIntS.f
  exact ev_pos rfl (eqIntS_loop l hl l.length 0 (by omega))

theorem implUrnOk_loop (l : List Int) (hl : l.length ≤ 1000000000) (d : Nat) : ∀ i : Nat, i + d = l.length → Ev (fun k => impl_UrnOk.l0 k l l (l.length : Int) (i : Int)) ((l.drop i).all urnE && colB l.length) := by
  induction d with
  | zero =>
    intro i hi
    refine Ev.step (fun _ => rfl) ?_
    refine ev_neg (by omega) ?_
    rw [coloursOk_f, List.drop_eq_nil_of_le (by omega)]
    exact Ev.now _
  | succ d ih =>
    intro i hi
    refine Ev.step (fun _ => rfl) ?_
    refine ev_pos (by omega) (ev_pos (by omega) (ev_pos (by omega) ?_))
    rw [drop_rd l i (by omega), List.all_cons]
    by_cases h1 : rd l (i : Int) < 0
    · refine ev_pos h1 (ev_eq (Ev.now _) ?_)
      rw [show urnE (rd l (i : Int)) = false from by simp [urnE]; omega]; rfl
    · refine ev_neg h1 ?_
      by_cases h2 : rd l (i : Int) > 40
      · refine ev_pos h2 (ev_eq (Ev.now _) ?_)
        rw [show urnE (rd l (i : Int)) = false from by simp [urnE]; omega]; rfl
      · refine ev_neg h2 ?_
        rw [w64n i (by omega), show urnE (rd l (i : Int)) = true from by simp [urnE]; omega, Bool.true_and]
        exact ih (i + 1) (by omega)
theorem implUrnOk_ev (l : List Int) (hl : l.length ≤ 1000000000) : Ev (fun k => impl_UrnOk.f k l) (urnB l) := by
  unfold impl_UrnOk.f
  exact implUrnOk_loop l hl l.length 0 (by omega)

theorem specUrnOk_loop (l : List Int) (hl : l.length ≤ 1000000000) (d : Nat) : ∀ i : Nat, i + d = l.length → Ev (fun k => spec_UrnOk.l0 k l (i : Int)) ((l.drop i).all urnE && colB l.length) := by
  induction d with
  | zero =>
    intro i hi
    refine Ev.step (fun _ => rfl) ?_
    refine ev_neg (by omega) ?_
    rw [l1In_f, List.drop_eq_nil_of_le (by omega)]
    exact Ev.now _
  | succ d ih =>
    intro i hi
    refine Ev.step (fun _ => rfl) ?_
    refine ev_pos (by omega) (ev_pos (by omega) ?_)
    rw [drop_rd l i (by omega), List.all_cons, l1In_f, show inB (rd l (i : Int)) 0 40 = urnE (rd l (i : Int)) from rfl]
    cases h : urnE (rd l (i : Int)) with
    | false => exact Ev.now _
    | true =>
      simp only [Option.bind_some, if_true, Bool.true_and]
      rw [w64n i (by omega)]
      exact ih (i + 1) (by omega)
theorem specUrnOk_ev (l : List Int) (hl : l.length ≤ 1000000000) : Ev (fun k => spec_UrnOk.f k l) (urnB l) := by
  unfold spec_UrnOk.f
  exact specUrnOk_loop l hl l.length 0 (by omega)

theorem implStartOk_loop (l : List Int) (hl : l.length ≤ 1000000000) (d : Nat) : ∀ i : Nat, i + d = l.length → Ev (fun k => impl_StartOk.l0 k l l (l.length : Int) (i : Int)) ((l.drop i).all (fun x => decide (x ≤ 10)) && urnB l) := by
  induction d with
  | zero =>
    intro i hi
    refine Ev.step (fun _ => rfl) ?_
    refine ev_neg (by omega) ?_
    rw [List.drop_eq_nil_of_le (by omega)]
    exact Ev.bind (implUrnOk_ev l hl) (Ev.now _)
  | succ d ih =>
    intro i hi
    refine Ev.step (fun _ => rfl) ?_
    refine ev_pos (by omega) (ev_pos (by omega) (ev_pos (by omega) ?_))
    rw [drop_rd l i (by omega), List.all_cons]
    by_cases h1 : rd l (i : Int) > 10
    · refine ev_pos h1 (ev_eq (Ev.now _) ?_)
      rw [show decide (rd l (i : Int) ≤ 10) = false from by simp; omega]; rfl
    · refine ev_neg h1 ?_
      rw [w64n i (by omega), show decide (rd l (i : Int) ≤ 10) = true from by simp; omega, Bool.true_and]
      exact ih (i + 1) (by omega)
theorem implStartOk_ev (l : List Int) (hl : l.length ≤ 1000000000) : Ev (fun k => impl_StartOk.f k l) (startB l) := by
  unfold impl_StartOk.f
  exact implStartOk_loop l hl l.length 0 (by omega)

theorem specStartOk_loop (l : List Int) (hl : l.length ≤ 1000000000) (d : Nat) : ∀ i : Nat, i + d = l.length → Ev (fun k => spec_StartOk.l0 k l (i : Int)) ((l.drop i).all (fun x => decide (x ≤ 10)) && urnB l) := by
  induction d with
  | zero =>
    intro i hi
    refine Ev.step (fun _ => rfl) ?_
    refine ev_neg (by omega) ?_
    rw [List.drop_eq_nil_of_le (by omega)]
    exact Ev.bind (specUrnOk_ev l hl) (Ev.now _)
  | succ d ih =>
    intro i hi
    refine Ev.step (fun _ => rfl) ?_
    refine ev_pos (by omega) (ev_pos (by omega) ?_)
    rw [drop_rd l i (by omega), List.all_cons]
    by_cases h1 : rd l (i : Int) > 10
    · refine ev_pos h1 (ev_eq (Ev.now _) ?_)
      rw [show decide (rd l (i : Int) ≤ 10) = false from by simp; omega]; rfl
    · refine ev_neg h1 ?_
      rw [w64n i (by omega), show decide (rd l (i : Int) ≤ 10) = true from by simp; omega, Bool.true_and]
      exact ih (i + 1) (by omega)
theorem specStartOk_ev (l : List Int) (hl : l.length ≤ 1000000000) : Ev (fun k => spec_StartOk.f k l) (startB l) := by
  unfold spec_StartOk.f
  exact specStartOk_loop l hl l.length 0 (by omega)

theorem implWordOk_loop (c : Int) (l : List Int) (hl : l.length ≤ 1000000000) (d : Nat) : ∀ i : Nat, i + d = l.length → Ev (fun k => impl_WordOk.l0 k c l l (l.length : Int) (i : Int)) ((l.drop i).all (fun x => decide (0 ≤ x ∧ x < c)) && (colB c && decide ((l.length : Int) ≤ 6))) := by
  induction d with
  | zero =>
    intro i hi
    refine Ev.step (fun _ => rfl) ?_
    refine ev_neg (by omega) ?_
    rw [coloursOk_f, List.drop_eq_nil_of_le (by omega)]
    cases h : colB c <;> exact Ev.now _
  | succ d ih =>
    intro i hi
    refine Ev.step (fun _ => rfl) ?_
    refine ev_pos (by omega) (ev_pos (by omega) (ev_pos (by omega) ?_))
    rw [drop_rd l i (by omega), List.all_cons]
    by_cases h1 : rd l (i : Int) < 0
    · refine ev_pos h1 (ev_eq (Ev.now _) ?_)
      rw [show decide (0 ≤ rd l (i : Int) ∧ rd l (i : Int) < c) = false from by simp; omega]; rfl
    · refine ev_neg h1 ?_
      by_cases h2 : rd l (i : Int) ≥ c
      · refine ev_pos h2 (ev_eq (Ev.now _) ?_)
        rw [show decide (0 ≤ rd l (i : Int) ∧ rd l (i : Int) < c) = false from by simp; omega]; rfl
      · refine ev_neg h2 ?_
        rw [w64n i (by omega), show decide (0 ≤ rd l (i : Int) ∧ rd l (i : Int) < c) = true from by simp; omega, Bool.true_and]
        exact ih (i + 1) (by omega)
theorem implWordOk_ev (c : Int) (l : List Int) (hl : l.length ≤ 1000000000) : Ev (fun k => impl_WordOk.f k c l) (wordB c l) := by
  unfold impl_WordOk.f
  exact implWordOk_loop c l hl l.length 0 (by omega)

theorem specWordOk_loop (c : Int) (l : List Int) (hl : l.length ≤ 1000000000) (d : Nat) : ∀ i : Nat, i + d = l.length → Ev (fun k => spec_WordOk.l0 k c l (i : Int)) ((l.drop i).all (fun x => decide (0 ≤ x ∧ x < c)) && (colB c && decide ((l.length : Int) ≤ 6))) := by
  induction d with
  | zero =>
    intro i hi
    refine Ev.step (fun _ => rfl) ?_
    refine ev_neg (by omega) ?_
    rw [l1In_f, List.drop_eq_nil_of_le (by omega), show inB c 1 3 = colB c from rfl]
    cases h : colB c <;> exact Ev.now _
  | succ d ih =>
    intro i hi
    refine Ev.step (fun _ => rfl) ?_
    refine ev_pos (by omega) (ev_pos (by omega) ?_)
    rw [drop_rd l i (by omega), List.all_cons]
    by_cases h1 : rd l (i : Int) < 0
    · refine ev_pos h1 (ev_eq (Ev.now _) ?_)
      rw [show decide (0 ≤ rd l (i : Int) ∧ rd l (i : Int) < c) = false from by simp; omega]; rfl
    · refine ev_neg h1 ?_
      by_cases h2 : rd l (i : Int) ≥ c
      · refine ev_pos h2 (ev_eq (Ev.now _) ?_)
        rw [show decide (0 ≤ rd l (i : Int) ∧ rd l (i : Int) < c) = false from by simp; omega]; rfl
      · refine ev_neg h2 ?_
        rw [w64n i (by omega), show decide (0 ≤ rd l (i : Int) ∧ rd l (i : Int) < c) = true from by simp; omega, Bool.true_and]
        exact ih (i + 1) (by omega)
theorem specWordOk_ev (c : Int) (l : List Int) (hl : l.length ≤ 1000000000) : Ev (fun k => spec_WordOk.f k c l) (wordB c l) := by
  unfold spec_WordOk.f
  exact specWordOk_loop c l hl l.length 0 (by omega)

theorem markIntS_set (l : List Int) (k : Int) (i : Nat) (h : i < l.length) : (iota k i ++ l.drop i).set i (k + i) = iota k (i + 1) ++ l.drop (i + 1) := by
  rw [List.set_append_right _ _ (by rw [iota_length]; omega), iota_length, Nat.sub_self, drop_rd l i h, List.set_cons_zero, iota_snoc, List.append_assoc]
  rfl
theorem markIntS_loop (l : List Int) (q : Int) (hq0 : 0 ≤ q) (hq : q ≤ 1000000000000000000) (hl : l.length ≤ 1000000000) (d : Nat) : ∀ i : Nat, i + d = l.length → Ev (fun k => laws_markIntS.l0 k (iota q i ++ l.drop i) (q + i) (i : Int)) (q + l.length, iota q l.length) := by
  induction d with
  | zero =>
    intro i hi
    refine Ev.step (fun _ => rfl) ?_
    refine ev_neg (by rw [List.length_append, iota_length, List.length_drop]; omega) (ev_eq (Ev.now _) ?_)
    rw [List.drop_eq_nil_of_le (by omega), List.append_nil, show i = l.length by omega]
  | succ d ih =>
    intro i hi
    refine Ev.step (fun _ => rfl) ?_
    refine ev_pos (by rw [List.length_append, iota_length, List.length_drop]; omega) (ev_pos (by omega) ?_)
    rw [show ((i : Int)).toNat = i from by simp, markIntS_set l q i (by omega), w64n i (by omega), w64 (by omega) (by omega), show q + (i : Int) + 1 = q + ((i + 1 : Nat) : Int) from by omega]
    exact ih (i + 1) (by omega)
theorem markIntS_ev (l : List Int) (q : Int) (hq0 : 0 ≤ q) (hq : q ≤ 1000000000000000000) (hl : l.length ≤ 1000000000) : Ev (fun k => laws_markIntS.f k l q) (q + l.length, iota q l.length) := by
  unfold laws_markIntS.f
  have := markIntS_loop l q hq0 hq hl l.length 0 (by omega)
  simpa [iota] using this

theorem heldIntS_loop (n : Nat) (q : Int) (hq0 : 0 ≤ q) (hq : q ≤ 1000000000000000000) (hl : n ≤ 1000000000) (d : Nat) : ∀ i : Nat, i + d = n → Ev (fun k => laws_heldIntS.l0 k (iota q n) (q + i) (i : Int)) (q + n) := by
  induction d with
  | zero =>
    intro i hi
    refine Ev.step (fun _ => rfl) ?_
    refine ev_neg (by rw [iota_length]; omega) (ev_eq (Ev.now _) ?_)
    rw [show i = n by omega]
  | succ d ih =>
    intro i hi
    refine Ev.step (fun _ => rfl) ?_
    refine ev_pos (by rw [iota_length]; omega) (ev_pos (by omega) (ev_pos (iota_rd n q i (by omega)) ?_))
    rw [w64n i (by omega), w64 (by omega) (by omega), show q + (i : Int) + 1 = q + ((i + 1 : Nat) : Int) from by omega]
    exact ih (i + 1) (by omega)
theorem heldIntS_ev (n : Nat) (q : Int) (hq0 : 0 ≤ q) (hq : q ≤ 1000000000000000000) (hl : n ≤ 1000000000) : Ev (fun k => laws_heldIntS.f k (iota q n) q) (q + n) := by
  unfold laws_heldIntS.f
  have := heldIntS_loop n q hq0 hq hl n 0 (by omega)
  simpa using this

theorem rdL_eq (xs : List (List Int)) (i : Int) : rd_L1 xs i = rowR xs i := rfl

theorem implRuleOk_inner (c : Int) (rule : List (List Int)) (i : Nat) (rest : Bool) (row : List Int) (hl : row.length ≤ 1000000000) (H : Ev (fun k => impl_RuleOk.l0 k c rule rule (rule.length : Int) ((i + 1 : Nat) : Int)) rest) (hi : i ≤ 1000000000) (d : Nat) : ∀ j : Nat, j + d = row.length →
    Ev (fun k => impl_RuleOk.l1 k c rule (i : Int) rule (rule.length : Int) (i : Int) row (row.length : Int) (j : Int)) (entsB i j (row.drop j) && rest) := by
  induction d with
  | zero =>
    intro j hj
    refine Ev.step (fun _ => rfl) ?_
    refine ev_neg (by omega) ?_
    rw [List.drop_eq_nil_of_le (by omega), w64n i (by omega)]
    exact ev_eq H (by simp [entsB])
  | succ d ih =>
    intro j hj
    refine Ev.step (fun _ => rfl) ?_
    refine ev_pos (by omega) (ev_pos (by omega) (ev_pos (by omega) ?_))
    rw [drop_rd row j (by omega), entsB]
    have no : entB i j (rd row (j : Int)) = false → (entB i j (rd row (j : Int)) && entsB i (j + 1) (row.drop (j + 1)) && rest) = false := fun h => by rw [h]; rfl
    by_cases h1 : rd row (j : Int) > 3
    · refine ev_pos h1 (ev_eq (Ev.now _) ?_)
      rw [no (by simp [entB]; omega)]
    refine ev_neg h1 ?_
    by_cases h2 : rd row (j : Int) < -1
    · refine ev_pos h2 (ev_eq (Ev.now _) ?_)
      rw [no (by simp [entB]; omega)]
    refine ev_neg h2 ?_
    have go : entB i j (rd row (j : Int)) = true → Ev (fun k => impl_RuleOk.l1 k c rule (i : Int) rule (rule.length : Int) (i : Int) row (row.length : Int) (wrap64 ((j : Int) + 1))) (entB i j (rd row (j : Int)) && entsB i (j + 1) (row.drop (j + 1)) && rest) := fun h => by
      rw [h, Bool.true_and, w64n j (by omega)]
      exact ih (j + 1) (by omega)
    by_cases h3 : rd row (j : Int) = -1
    · refine ev_pos h3 ?_
      by_cases h4 : (i : Int) = (j : Int)
      · exact ev_pos h4 (go (by simp [entB]; omega))
      · refine ev_neg h4 (ev_eq (Ev.now _) ?_)
        rw [no (by simp [entB, h3, h4])]
    · exact ev_neg h3 (go (by simp [entB]; omega))
theorem implRuleOk_loop (c : Int) (rule : List (List Int)) (hl : rule.length ≤ 100000000) (hr : ∀ r ∈ rule, r.length ≤ 1000000000) (d : Nat) : ∀ i : Nat, i + d = rule.length →
    Ev (fun k => impl_RuleOk.l0 k c rule rule (rule.length : Int) (i : Int)) (rowsB c i (rule.drop i) && (colB c && decide ((rule.length : Int) = c))) := by
  induction d with
  | zero =>
    intro i hi
    refine Ev.step (fun _ => rfl) ?_
    refine ev_neg (by omega) ?_
    rw [coloursOk_f, List.drop_eq_nil_of_le (by omega)]
    cases h : colB c
    · exact Ev.now _
    · exact ev_eq (Ev.now _) (by simp [rowsB]; rfl)
  | succ d ih =>
    intro i hi
    refine Ev.step (fun _ => rfl) ?_
    refine ev_pos (by omega) (ev_pos (by omega) (ev_pos (by omega) ?_))
    rw [rdL_eq, drop_rowR rule i (by omega), rowsB, rowB]
    by_cases h : ((rowR rule (i : Int)).length : Int) = c
    · refine ev_pos h ?_
      have := implRuleOk_inner c rule i _ (rowR rule (i : Int)) (hr _ (rowR_mem rule i (by omega))) (ih (i + 1) (by omega)) (by omega) (rowR rule (i : Int)).length 0 (by omega)
      refine ev_eq this ?_
      simp [h, Bool.and_assoc]
    · refine ev_neg h (ev_eq (Ev.now _) ?_)
      simp [h]
theorem implRuleOk_ev (c : Int) (rule : List (List Int)) (hl : rule.length ≤ 100000000) (hr : ∀ r ∈ rule, r.length ≤ 1000000000) : Ev (fun k => impl_RuleOk.f k c rule) (ruleB c rule) := by
  unfold impl_RuleOk.f
  exact implRuleOk_loop c rule hl hr rule.length 0 (by omega)

theorem specRuleOk_inner (c : Int) (rule : List (List Int)) (i : Nat) (rest : Bool) (hi : i < rule.length) (hl : rule.length ≤ 100000000) (hl2 : (rowR rule i).length ≤ 1000000000) (hc : ((rowR rule i).length : Int) = c) (H : Ev (fun k => spec_RuleOk.l0 k c rule ((i + 1 : Nat) : Int)) rest) (d : Nat) : ∀ j : Nat, j + d = (rowR rule i).length →
    Ev (fun k => spec_RuleOk.l1 k c rule (i : Int) (j : Int)) (entsB i j ((rowR rule i).drop j) && rest) := by
  induction d with
  | zero =>
    intro j hj
    refine Ev.step (fun _ => rfl) ?_
    refine ev_neg (by omega) ?_
    rw [List.drop_eq_nil_of_le (by omega), w64n i (by omega)]
    exact ev_eq H (by simp [entsB])
  | succ d ih =>
    intro j hj
    refine Ev.step (fun _ => rfl) ?_
    refine ev_pos (by omega) (ev_pos (by omega) (ev_pos (by omega) (ev_pos (by omega) ?_)))
    refine ev_pos (show (j : Int) < ((rowR rule i).length : Int) by omega) ?_
    rw [drop_rd _ j (by omega), entsB, rdL_eq, l1In_f, w64n j (by omega)]
    have no : entB i j (rd (rowR rule i) (j : Int)) = false → (entB i j (rd (rowR rule i) (j : Int)) && entsB i (j + 1) ((rowR rule i).drop (j + 1)) && rest) = false := fun h => by rw [h]; rfl
    have go : entB i j (rd (rowR rule i) (j : Int)) = true → Ev (fun k => spec_RuleOk.l1 k c rule (i : Int) ((j + 1 : Nat) : Int)) (entB i j (rd (rowR rule i) (j : Int)) && entsB i (j + 1) ((rowR rule i).drop (j + 1)) && rest) := fun h => by
      rw [h, Bool.true_and]
      exact ih (j + 1) (by omega)
    refine Ev.bind (Ev.now _) ?_
    by_cases h1 : 0 ≤ rd (rowR rule i) (j : Int) ∧ rd (rowR rule i) (j : Int) ≤ 3
    · exact ev_pos (by simp [inB]; omega) (go (by simp [entB]; omega))
    refine ev_neg (by simp [inB]; omega) ?_
    by_cases h3 : rd (rowR rule i) (j : Int) = -1
    · refine ev_pos h3 ?_
      by_cases h4 : (j : Int) = (i : Int)
      · exact ev_pos h4 (go (by simp [entB]; omega))
      · refine ev_neg h4 (ev_eq (Ev.now _) ?_)
        rw [no (by simp [entB, h3]; omega)]
    · refine ev_neg h3 (ev_eq (Ev.now _) ?_)
      rw [no (by simp [entB]; omega)]
theorem specRuleOk_loop (c : Int) (rule : List (List Int)) (hl : rule.length ≤ 100000000) (hr : ∀ r ∈ rule, r.length ≤ 1000000000) (d : Nat) : ∀ i : Nat, i + d = rule.length →
    Ev (fun k => spec_RuleOk.l0 k c rule (i : Int)) (rowsB c i (rule.drop i) && (colB c && decide ((rule.length : Int) = c))) := by
  induction d with
  | zero =>
    intro i hi
    refine Ev.step (fun _ => rfl) ?_
    refine ev_neg (by omega) ?_
    rw [l1In_f, show inB c 1 3 = colB c from rfl, List.drop_eq_nil_of_le (by omega)]
    cases h : colB c
    · exact Ev.now _
    · exact ev_eq (Ev.now _) (by simp [rowsB]; rfl)
  | succ d ih =>
    intro i hi
    refine Ev.step (fun _ => rfl) ?_
    refine ev_pos (by omega) (ev_pos (by omega) ?_)
    rw [rdL_eq, drop_rowR rule i (by omega), rowsB, rowB]
    by_cases h : ((rowR rule (i : Int)).length : Int) = c
    · refine ev_pos h ?_
      have := specRuleOk_inner c rule i _ (by omega) hl (hr _ (rowR_mem rule i (by omega))) h (ih (i + 1) (by omega)) (rowR rule (i : Int)).length 0 (by omega)
      refine ev_eq this ?_
      simp [h, Bool.and_assoc]
    · refine ev_neg h (ev_eq (Ev.now _) ?_)
      simp [h]
theorem specRuleOk_ev (c : Int) (rule : List (List Int)) (hl : rule.length ≤ 100000000) (hr : ∀ r ∈ rule, r.length ≤ 1000000000) : Ev (fun k => spec_RuleOk.f k c rule) (ruleB c rule) := by
  unfold spec_RuleOk.f
  exact specRuleOk_loop c rule hl hr rule.length 0 (by omega)

theorem ruleAsked_ev (u : List Int) (rule : List (List Int)) (hu : u.length ≤ 1000000000) (hl : rule.length ≤ 100000000) (hr : ∀ r ∈ rule, r.length ≤ 1000000000) : Ev (fun k => impl_ruleAsked.f k u rule) (startB u && ruleB u.length rule) := by
  unfold impl_ruleAsked.f
  refine Ev.bind (implStartOk_ev u hu) ?_
  cases h : startB u with
  | false => exact ev_neg (by simp) (Ev.now _)
  | true => exact ev_pos rfl (Ev.bind (implRuleOk_ev _ rule hl hr) (Ev.now _))

theorem Clone_f (l : List Int) (hl : l.length ≤ 1000000000) : slices_Clone_int_int.f l = some l := by
  unfold slices_Clone_int_int.f
  simp only [Option.bind_some]
  rw [if_pos (by simp; omega)]; rfl

theorem implAdded_set (a b : List Int) (h : b.length = a.length) (i : Nat) (hi : i < b.length) : ((addL a b).take i ++ a.drop i).set i (rd ((addL a b).take i ++ a.drop i) (i : Int) + rd b (i : Int)) = (addL a b).take (i + 1) ++ a.drop (i + 1) := by
  have hl := addL_length a b h
  have e1 : ((addL a b).take i).length = i := by rw [List.length_take]; omega
  have e2 : rd ((addL a b).take i ++ a.drop i) (i : Int) = rd a (i : Int) := by
    rw [rd_nat _ i (by rw [List.length_append, e1, List.length_drop]; omega), rd_nat a i (by omega), List.getElem_append_right (by omega)]
    simp only [e1, Nat.sub_self, List.getElem_drop, Nat.add_zero]
  rw [e2, List.set_append_right _ _ (by omega), e1, Nat.sub_self, drop_rd a i (by omega), List.set_cons_zero, take_rd (addL a b) i (by omega), addL_rd a b i (by omega) h, List.append_assoc]
  rfl
theorem implAdded_loop (a b : List Int) (h : b.length = a.length) (hl : b.length ≤ 1000) (hb : ∀ i : Nat, i < b.length → -1000000 ≤ rd a i + rd b i ∧ rd a i + rd b i ≤ 1000000) (d : Nat) : ∀ i : Nat, i + d = b.length → Ev (fun k => impl_added.l0 k ((addL a b).take i ++ a.drop i) b (b.length : Int) (i : Int)) (addL a b) := by
  have hla := addL_length a b h
  induction d with
  | zero =>
    intro i hi
    refine Ev.step (fun _ => rfl) ?_
    refine ev_neg (by omega) (ev_eq (Ev.now _) ?_)
    rw [List.take_of_length_le (by omega), List.drop_eq_nil_of_le (by omega), List.append_nil]
  | succ d ih =>
    intro i hi
    refine Ev.step (fun _ => rfl) ?_
    refine ev_pos (by omega) (ev_pos (by omega) (ev_pos (by omega) (ev_pos (by rw [List.length_append, List.length_take, List.length_drop]; omega) ?_)))
    have e1 : ((addL a b).take i).length = i := by rw [List.length_take]; omega
    have e2 : rd ((addL a b).take i ++ a.drop i) (i : Int) = rd a (i : Int) := by
      rw [rd_nat _ i (by rw [List.length_append, e1, List.length_drop]; omega), rd_nat a i (by omega), List.getElem_append_right (by omega)]
      simp only [e1, Nat.sub_self, List.getElem_drop, Nat.add_zero]
    have hbi := hb i (by omega)
    rw [w64n i (by omega), w64 (by rw [e2]; omega) (by rw [e2]; omega), show ((i : Int)).toNat = i from by simp, implAdded_set a b h i (by omega)]
    exact ih (i + 1) (by omega)
theorem implAdded_ev (a b : List Int) (h : b.length = a.length) (hl : b.length ≤ 1000) (hb : ∀ i : Nat, i < b.length → -1000000 ≤ rd a i + rd b i ∧ rd a i + rd b i ≤ 1000000) : Ev (fun k => impl_added.f k a b) (addL a b) := by
  unfold impl_added.f
  rw [Clone_f a (by omega)]
  refine Ev.bind (Ev.now _) ?_
  have := implAdded_loop a b h hl hb b.length 0 (by omega)
  simpa using this

theorem implAfter_loop {B : Int} (c : Nat) (r : List (List Int)) (hr : RuleK c r) (u w : List Int) (hn : Near B c 0 u) (hw : ∀ q ∈ w, 0 ≤ q ∧ q < (c : Int)) (hl : w.length ≤ 6) (d : Nat) : ∀ i : Nat, i + d = w.length → Ev (fun k => impl_after.l0 k r (afterL r u (w.take i)) w (w.length : Int) (i : Int)) (afterL r u w) := by
  induction d with
  | zero =>
    intro i hi
    refine Ev.step (fun _ => rfl) ?_
    refine ev_neg (by omega) (ev_eq (Ev.now _) ?_)
    rw [List.take_of_length_le (by omega)]
  | succ d ih =>
    intro i hi
    refine Ev.step (fun _ => rfl) ?_
    have hq := hw _ (rd_mem w i (by omega))
    refine ev_pos (by omega) (ev_pos (by omega) (ev_pos (by omega) (ev_pos hq.1 (ev_pos (by rw [hr.len]; exact hq.2) ?_))))
    have ha := near_after hr (w.take i) 0 u hn (fun q h => hw q (List.mem_of_mem_take h))
    have hb := near_step ha hr _ hq.1 hq.2
    have hlt : (w.take i).length ≤ 6 := by rw [List.length_take]; omega
    obtain ⟨m, hm⟩ := Int.eq_ofNat_of_zero_le hq.1
    rw [rdL_eq]
    refine Ev.bind (implAdded_ev _ _ (by rw [hm, hr.rows m (by omega), ha.1]) (by rw [hm, hr.rows m (by omega)]; have := hr.c3; omega) ?_) ?_
    · intro j hj
      rw [hm, hr.rows m (by omega)] at hj
      have h1 := ha.2.1 j hj; have h5 := ha.2.2; have h2 := hr.ent m j (by omega) hj
      rw [hm]; omega
    · rw [← afterL_snoc, ← take_rd w i (by omega), w64n i (by omega)]
      exact ih (i + 1) (by omega)
theorem implAfter_ev {B : Int} (c : Nat) (r : List (List Int)) (hr : RuleK c r) (u w : List Int) (hn : Near B c 0 u) (hw : ∀ q ∈ w, 0 ≤ q ∧ q < (c : Int)) (hl : w.length ≤ 6) : Ev (fun k => impl_after.f k u r w) (afterL r u w) := by
  unfold impl_after.f
  rw [Clone_f u (by rw [hn.1]; have := hr.c3; omega)]
  exact Ev.bind (Ev.now _) (implAfter_loop c r hr u w hn hw hl w.length 0 (by omega))

theorem implruleWays_loop {B : Int} (c : Nat) (r : List (List Int)) (hr : RuleK c r) (u w : List Int) (hn : Near B c 0 u) (hw : ∀ q ∈ w, 0 ≤ q ∧ q < (c : Int)) (hl : w.length ≤ 6) (d : Nat) : ∀ i : Nat, i + d = w.length → Ev (fun k => impl_ruleWays.l0 k u r w (waysL r u (w.take i)) w (w.length : Int) (i : Int)) (waysL r u w) := by
  induction d with
  | zero =>
    intro i hi
    refine Ev.step (fun _ => rfl) ?_
    refine ev_neg (by omega) (ev_eq (Ev.now _) ?_)
    rw [List.take_of_length_le (by omega)]
  | succ d ih =>
    intro i hi
    refine Ev.step (fun _ => rfl) ?_
    have hq := hw _ (rd_mem w i (by omega))
    have hwt : ∀ (n : Nat) (q : Int), q ∈ w.take n → 0 ≤ q ∧ q < (c : Int) := fun n q h => hw q (List.mem_of_mem_take h)
    have ha := near_after hr (w.take i) 0 u hn (hwt i)
    refine ev_pos (by omega) (ev_pos (by omega) (ev_pos (by omega) (ev_pos (by omega) ?_)))
    rw [show ((i : Int)).toNat = i from by simp]
    refine Ev.bind (implAfter_ev c r hr u (w.take i) hn (hwt i) (by rw [List.length_take]; omega)) ?_
    refine ev_pos hq.1 (ev_pos (by rw [ha.1]; exact hq.2) ?_)
    have e := waysL_snoc r (w.take i) u (rd w (i : Int))
    rw [← take_rd w i (by omega)] at e
    have hb := waysL_bound' hr (w.take (i + 1)) u hn (by rw [List.length_take]; omega) (hwt (i + 1))
    rw [← e, w64 (x := waysL r u (w.take (i + 1))) (by omega) (by omega), w64n i (by omega)]
    by_cases h0 : waysL r u (w.take (i + 1)) = 0
    · refine ev_pos h0 (ev_eq (Ev.now _) ?_)
      have := waysL_append r (w.take (i + 1)) (w.drop (i + 1)) u
      rw [List.take_append_drop, h0, Int.zero_mul] at this
      exact this.symm
    · exact ev_neg h0 (ih (i + 1) (by omega))
theorem implruleWays_ev {B : Int} (c : Nat) (r : List (List Int)) (hr : RuleK c r) (u w : List Int) (hn : Near B c 0 u) (hw : ∀ q ∈ w, 0 ≤ q ∧ q < (c : Int)) (hl : w.length ≤ 6) : Ev (fun k => impl_ruleWays.f k u r w) (waysL r u w) := by
  unfold impl_ruleWays.f
  exact implruleWays_loop c r hr u w hn hw hl w.length 0 (by omega)

theorem implAfterWord_ev (u : List Int) (r : List (List Int)) (w : List Int) (hu : u.length ≤ 1000000000) (hl : r.length ≤ 100000000) (hr : ∀ x ∈ r, x.length ≤ 1000000000) (hw : w.length ≤ 1000000000) : Ev (fun k => impl_AfterWord.f k u r w) (afterP u r w) := by
  unfold impl_AfterWord.f afterP
  refine Ev.bind (ruleAsked_ev u r hu hl hr) ?_
  cases h1 : startB u with
  | false => rw [if_neg (fun h => by cases h.1)]; exact ev_neg (by simp) (Ev.now _)
  | true =>
  cases h2 : ruleB u.length r with
  | false => rw [if_neg (fun h => by cases h.2.1)]; exact ev_neg (by simp) (Ev.now _)
  | true =>
  refine ev_pos rfl (Ev.bind (implWordOk_ev _ w hw) ?_)
  cases h3 : wordB u.length w with
  | false => rw [if_neg (fun h => by cases h.2.2)]; exact ev_neg (by simp) (Ev.now _)
  | true =>
  rw [if_pos ⟨rfl, rfl, rfl⟩]
  obtain ⟨n1, n2, n3, n4, n5⟩ := near_start h1
  have hk := (ruleB_known h2).1
  rw [Int.toNat_natCast] at hk
  obtain ⟨w1, _, _, w2⟩ := wordB_bounds h3
  refine ev_pos rfl (Ev.bind (implruleWays_ev _ r hk u w n1 w1 w2) ?_)
  by_cases h4 : waysL r u w = 0
  · rw [if_pos h4]; exact ev_pos h4 (Ev.now _)
  · rw [if_neg h4]; exact ev_neg h4 (Ev.bind (implAfter_ev _ r hk u w n1 w1 w2) (Ev.now _))

theorem l4After_loop {B : Int} (c : Nat) (r : List (List Int)) (hr : RuleK c r) (u : List Int) (n : Nat) (hn6 : n ≤ 1000) (hn : Near B c n u) (q : Int) (h0 : 0 ≤ q) (h1 : q < (c : Int)) (d : Nat) : ∀ i : Nat, i + d = c → Ev (fun k => spec_l4After.l0 k u r q ((addL u (rowR r q)).take i) (i : Int)) (addL u (rowR r q)) := by
  obtain ⟨m, rfl⟩ := Int.eq_ofNat_of_zero_le h0
  have hrow := hr.rows m (by omega)
  have hla : (addL u (rowR r (m : Int))).length = c := by rw [addL_length _ _ (by rw [hrow, hn.1]), hn.1]
  have hc := hr.c3
  induction d with
  | zero =>
    intro i hi
    refine Ev.step (fun _ => rfl) ?_
    refine ev_neg (by rw [hn.1]; omega) (ev_eq (Ev.now _) ?_)
    rw [List.take_of_length_le (by omega)]
  | succ d ih =>
    intro i hi
    refine Ev.step (fun _ => rfl) ?_
    refine ev_pos (by rw [hn.1]; omega) (ev_pos (by omega) (ev_pos (by omega) (ev_pos (by rw [hr.len]; omega) (ev_pos (show (i : Int) < ((rowR r (m : Int)).length : Int) by rw [hrow]; omega) (ev_pos (by rw [List.length_take]; omega) ?_)))))
    have h2 := hn.2.1 i (by omega); have h5 := hn.2.2
    have h3 := hr.ent m i (by omega) (by omega)
    have h4 := addL_rd u (rowR r (m : Int)) i (by rw [hn.1]; omega) (by rw [hrow, hn.1])
    rw [rdL_eq, w64n i (by omega), w64 (by omega) (by omega), ← h4, ← take_rd _ i (by omega)]
    exact ih (i + 1) (by omega)
theorem l4After_ev {B : Int} (c : Nat) (r : List (List Int)) (hr : RuleK c r) (u : List Int) (n : Nat) (hn6 : n ≤ 1000) (hn : Near B c n u) (q : Int) (h0 : 0 ≤ q) (h1 : q < (c : Int)) : Ev (fun k => spec_l4After.f k u r q) (addL u (rowR r q)) := by
  unfold spec_l4After.f
  exact l4After_loop c r hr u n hn6 hn q h0 h1 c 0 (by omega)

theorem specAfterWord_loop {B : Int} (c : Nat) (r : List (List Int)) (hr : RuleK c r) (u w : List Int) (hn : Near B c 0 u) (hw : ∀ q ∈ w, 0 ≤ q ∧ q < (c : Int)) (hl : w.length ≤ 6) (d : Nat) : ∀ i : Nat, i + d = w.length → waysL r u (w.take i) ≠ 0 →
    Ev (fun k => spec_AfterWord.l0 k r w (afterL r u (w.take i)) (i : Int)) (if waysL r u w = 0 then ([], false) else (afterL r u w, true)) := by
  induction d with
  | zero =>
    intro i hi h0
    refine Ev.step (fun _ => rfl) ?_
    rw [List.take_of_length_le (by omega)] at h0 ⊢
    rw [if_neg h0]
    exact ev_neg (by omega) (Ev.now _)
  | succ d ih =>
    intro i hi h0
    refine Ev.step (fun _ => rfl) ?_
    have hq := hw _ (rd_mem w i (by omega))
    have hwt : ∀ (n : Nat) (q : Int), q ∈ w.take n → 0 ≤ q ∧ q < (c : Int) := fun n q h => hw q (List.mem_of_mem_take h)
    have ha := near_after hr (w.take i) 0 u hn (hwt i)
    have e := waysL_snoc r (w.take i) u (rd w (i : Int))
    rw [← take_rd w i (by omega)] at e
    refine ev_pos (by omega) (ev_pos (by omega) (ev_pos hq.1 (ev_pos (by rw [ha.1]; exact hq.2) ?_)))
    by_cases h1 : rd (afterL r u (w.take i)) (rd w (i : Int)) < 1
    · refine ev_pos h1 (ev_eq (Ev.now _) ?_)
      rw [mx_l 0 _ (by omega), Int.mul_zero] at e
      have := waysL_append r (w.take (i + 1)) (w.drop (i + 1)) u
      rw [List.take_append_drop, e, Int.zero_mul] at this
      rw [if_pos this]
    · refine ev_neg h1 ?_
      refine Ev.bind (l4After_ev c r hr _ _ (by rw [List.length_take]; omega) ha _ hq.1 hq.2) ?_
      rw [← afterL_snoc, ← take_rd w i (by omega), w64n i (by omega)]
      refine ih (i + 1) (by omega) ?_
      rw [e, mx_r 0 _ (by omega)]
      exact Int.mul_ne_zero h0 (by omega)
theorem specAfterWord_ev (u : List Int) (r : List (List Int)) (w : List Int) (hu : u.length ≤ 1000000000) (hl : r.length ≤ 100000000) (hr : ∀ x ∈ r, x.length ≤ 1000000000) (hw : w.length ≤ 1000000000) : Ev (fun k => spec_AfterWord.f k u r w) (afterP u r w) := by
  have no : Ev (fun k => spec_AfterWord.j0 k u r w true) ([], false) := Ev.step (fun _ => rfl) (Ev.now _)
  unfold spec_AfterWord.f afterP
  refine Ev.bind (specStartOk_ev u hu) ?_
  cases h1 : startB u with
  | false => rw [if_neg (fun h => by cases h.1)]; exact ev_neg (by simp) no
  | true =>
  refine ev_pos rfl (Ev.bind (specRuleOk_ev _ r hl hr) ?_)
  cases h2 : ruleB u.length r with
  | false => rw [if_neg (fun h => by cases h.2.1)]; exact ev_neg (by simp) no
  | true =>
  refine ev_pos rfl (Ev.bind (specWordOk_ev _ w hw) ?_)
  cases h3 : wordB u.length w with
  | false => rw [if_neg (fun h => by cases h.2.2)]; exact no
  | true =>
  rw [if_pos ⟨rfl, rfl, rfl⟩]
  obtain ⟨n1, n2, n3, n4, n5⟩ := near_start h1
  have hk := (ruleB_known h2).1
  rw [Int.toNat_natCast] at hk
  obtain ⟨w1, _, _, w2⟩ := wordB_bounds h3
  refine Ev.step (fun _ => by rw [spec_AfterWord.j0]) ?_
  refine ev_neg (by simp) ?_
  refine Ev.bind (Ev.now _) ?_
  refine ev_pos (by simp; omega) ?_
  exact specAfterWord_loop _ r hk u w n1 w1 w2 w.length 0 (by omega) (by simp [waysL])

theorem szIntS_f (l : List Int) (n : Int) (hl : l.length ≤ 9223372036854775807) (h0 : 0 ≤ n) (h1 : n ≤ 1048576) : ∃ v, laws_szIntS.f l n = some v ∧ v ≤ 1048576 ∧ (0 ≤ v → l.length ≤ 1048576) := by
  unfold laws_szIntS.f
  rw [w64 (by omega) (by omega)]
  by_cases h : n - (l.length : Int) < 0
  · exact ⟨-1, if_pos h, by omega, by omega⟩
  · exact ⟨n - l.length, if_neg h, by omega, by omega⟩
theorem szIntSS_loop (r : List (List Int)) (hl : r.length ≤ 1048576) (hr : ∀ x ∈ r, x.length ≤ 9223372036854775807) (d : Nat) : ∀ (i : Nat) (n : Int), 0 ≤ n → n ≤ 1048576 → i + d = r.length → (∀ x ∈ r.take i, x.length ≤ 1048576) →
    ∃ v, Ev (fun k => laws_szIntSS.l0 k r n (i : Int)) v ∧ (0 ≤ v → ∀ x ∈ r, x.length ≤ 1048576) := by
  induction d with
  | zero =>
    intro i n hn0 hn hi hx
    refine ⟨n, Ev.step (fun _ => rfl) (ev_neg (by omega) (Ev.now _)), fun _ => ?_⟩
    rwa [List.take_of_length_le (by omega)] at hx
  | succ d ih =>
    intro i n hn0 hn hi hx
    obtain ⟨v, hv, h1, h2⟩ := szIntS_f (rowR r (i : Int)) n (hr _ (rowR_mem r i (by omega))) hn0 hn
    by_cases h3 : v < 0
    · refine ⟨-1, Ev.step (fun _ => rfl) (ev_pos (by omega) (ev_pos (by omega) ?_)), fun h => by omega⟩
      rw [rdL_eq, hv]
      exact Ev.bind (Ev.now _) (ev_pos h3 (Ev.now _))
    · obtain ⟨z, hz, hQ⟩ := ih (i + 1) v (by omega) h1 (by omega) (fun x hx' => by
        rw [take_rowR r i (by omega)] at hx'
        rcases List.mem_append.1 hx' with hx' | hx'
        · exact hx x hx'
        · have e : x = rowR r (i : Int) := by simpa using hx'
          rw [e]; exact h2 (by omega))
      refine ⟨z, Ev.step (fun _ => rfl) (ev_pos (by omega) (ev_pos (by omega) ?_)), hQ⟩
      rw [rdL_eq, hv, w64n i (by omega)]
      exact Ev.bind (Ev.now _) (ev_neg h3 hz)
theorem szIntSS_ev (r : List (List Int)) (hl : r.length ≤ 9223372036854775807) (hr : ∀ x ∈ r, x.length ≤ 9223372036854775807) :
    ∃ v, Ev (fun k => laws_szIntSS.f k r 1048576) v ∧ (0 ≤ v → r.length ≤ 1048576 ∧ ∀ x ∈ r, x.length ≤ 1048576) := by
  unfold laws_szIntSS.f
  rw [w64 (by omega) (by omega)]
  by_cases h : (1048576 : Int) - (r.length : Int) < 0
  · exact ⟨-1, ev_pos h (Ev.now _), fun h => by omega⟩
  · obtain ⟨v, hv, hQ⟩ := szIntSS_loop r (by omega) hr r.length 0 (1048576 - r.length) (by omega) (by omega) (by omega) (by simp)
    exact ⟨v, ev_neg h hv, fun h => ⟨by omega, hQ h⟩⟩

theorem toIntSS_set (l : List (List Int)) (i : Nat) (h : i < l.length) : (l.take i ++ List.replicate (l.length - i) []).set i (rowR l (i : Int)) = l.take (i + 1) ++ List.replicate (l.length - (i + 1)) [] := by
  rw [take_rowR l i h, List.set_append_right _ _ (by rw [List.length_take]; omega)]
  have e : l.length - i = (l.length - (i + 1)) + 1 := by omega
  rw [e, List.replicate_succ, List.length_take, Nat.min_eq_left (by omega), Nat.sub_self, List.set_cons_zero, List.append_assoc]
  rfl
theorem toIntSS_loop (l : List (List Int)) (hl : l.length ≤ 100000000) (hr : ∀ x ∈ l, x.length ≤ 1000000000) (d : Nat) : ∀ i : Nat, i + d = l.length → Ev (fun k => laws_toIntSS.l0 k l (l.take i ++ List.replicate (l.length - i) []) (i : Int)) l := by
  induction d with
  | zero =>
    intro i hi
    refine Ev.step (fun _ => rfl) ?_
    refine ev_neg (by omega) ?_
    have : i = l.length := by omega
    subst this
    refine ev_eq (Ev.now _) ?_
    simp
  | succ d ih =>
    intro i hi
    refine Ev.step (fun _ => rfl) ?_
    refine ev_pos (by omega) (ev_pos (by omega) (Ev.bind (toIntS_ev _ (hr _ (rowR_mem l i (by omega)))) (ev_pos (by simp; omega) ?_)))
    rw [show ((i : Int)).toNat = i from by simp, rdL_eq, toIntSS_set l i (by omega), w64n i (by omega)]
    exact ih (i + 1) (by omega)
theorem toIntSS_ev (l : List (List Int)) (hl : l.length ≤ 100000000) (hr : ∀ x ∈ l, x.length ≤ 1000000000) : Ev (fun k => laws_toIntSS.f k l) l := by
  unfold laws_toIntSS.f
  refine ev_pos (by omega) (ev_pos (by simp; omega) ?_)
  have := toIntSS_loop l hl hr l.length 0 (by omega)
  simpa using this

theorem eqIntSS_loop (r : List (List Int)) (hl : r.length ≤ 100000000) (hr : ∀ x ∈ r, x.length ≤ 1000000000) (d : Nat) : ∀ i : Nat, i + d = r.length → Ev (fun k => laws_eqIntSS.l0 k r r (i : Int)) true := by
  induction d with
  | zero =>
    intro i hi
    refine Ev.step (fun _ => rfl) ?_
    exact ev_neg (by omega) (Ev.now _)
  | succ d ih =>
    intro i hi
    refine Ev.step (fun _ => rfl) ?_
    refine ev_pos (by omega) (ev_pos (by omega) (ev_pos (by omega) (Ev.bind (eqIntS_ev _ (hr _ (rowR_mem r i (by omega)))) (ev_pos rfl ?_))))
    rw [w64n i (by omega)]
    exact ih (i + 1) (by omega)
theorem eqIntSS_ev (r : List (List Int)) (hl : r.length ≤ 100000000) (hr : ∀ x ∈ r, x.length ≤ 1000000000) : Ev (fun k => laws_eqIntSS.f k r r) true := by
  unfold laws_eqIntSS.f
  exact ev_pos rfl (eqIntSS_loop r hl hr r.length 0 (by omega))

/-- The rows, numbered through from q on; how many numbers they have. -/
def lens : List (List Int) → Nat
  | [] => 0
  | x :: r => x.length + lens r
def markL (q : Int) : List (List Int) → List (List Int)
  | [] => []
  | x :: r => iota q x.length :: markL (q + x.length) r
theorem lens_append (a b : List (List Int)) : lens (a ++ b) = lens a + lens b := by
  induction a with
  | nil => simp [lens]
  | cons x a ih => simp only [List.cons_append, lens, ih]; omega
theorem lens_bound (r : List (List Int)) (B : Nat) (h : ∀ x ∈ r, x.length ≤ B) : lens r ≤ r.length * B := by
  induction r with
  | nil => simp [lens]
  | cons x r ih =>
    have h1 := ih (fun y hy => h y (List.mem_cons_of_mem _ hy)); have h2 := h x List.mem_cons_self
    simp only [lens, List.length_cons, Nat.succ_mul]; omega
theorem markL_length (r : List (List Int)) : ∀ q : Int, (markL q r).length = r.length := by
  induction r with
  | nil => intro q; rfl
  | cons x r ih => intro q; simp [markL, ih]
theorem markL_append (a b : List (List Int)) : ∀ q : Int, markL q (a ++ b) = markL q a ++ markL (q + lens a) b := by
  induction a with
  | nil => intro q; simp [markL, lens]
  | cons x a ih =>
    intro q
    simp only [List.cons_append, markL, lens, ih]
    rw [show q + ((x.length + lens a : Nat) : Int) = q + x.length + lens a from by omega]
theorem lens_take (r : List (List Int)) (i : Nat) (h : i < r.length) : lens (r.take (i + 1)) = lens (r.take i) + (rowR r (i : Int)).length := by
  rw [take_rowR r i h, lens_append]; simp [lens]
theorem lens_take_le (r : List (List Int)) (i : Nat) : lens (r.take i) ≤ lens r := by
  have := lens_append (r.take i) (r.drop i)
  rw [List.take_append_drop] at this
  omega
theorem markL_take (r : List (List Int)) (q : Int) (i : Nat) (h : i < r.length) : markL q (r.take (i + 1)) = markL q (r.take i) ++ [iota (q + lens (r.take i)) (rowR r (i : Int)).length] := by
  rw [take_rowR r i h, markL_append]; simp [markL]
theorem markL_row (r : List (List Int)) (q : Int) (i : Nat) (h : i < r.length) : rowR (markL q r) (i : Int) = iota (q + lens (r.take i)) (rowR r (i : Int)).length := by
  have e : markL q r = markL q (r.take i) ++ markL (q + lens (r.take i)) (r.drop i) := by rw [← markL_append, List.take_append_drop]
  rw [rowR_nat _ i (by rw [markL_length]; exact h)]
  simp only [e]
  have hl : (markL q (r.take i)).length = i := by rw [markL_length, List.length_take]; omega
  rw [List.getElem_append_right (by omega)]
  simp only [hl, drop_rowR r i h, markL, Nat.sub_self, List.getElem_cons_zero]

theorem markIntSS_loop (r : List (List Int)) (q : Int) (hq0 : 0 ≤ q) (hq : q ≤ 1000000000) (hl : r.length ≤ 1000000000) (hr : ∀ x ∈ r, x.length ≤ 1000000000) (hs : lens r ≤ 10000000000000) (d : Nat) : ∀ i : Nat, i + d = r.length → Ev (fun k => laws_markIntSS.l0 k (markL q (r.take i) ++ r.drop i) (q + lens (r.take i)) (i : Int)) (q + lens r, markL q r) := by
  induction d with
  | zero =>
    intro i hi
    refine Ev.step (fun _ => rfl) ?_
    refine ev_neg (by rw [List.length_append, markL_length, List.length_take, List.length_drop]; omega) (ev_eq (Ev.now _) ?_)
    rw [List.drop_eq_nil_of_le (by omega), List.append_nil, List.take_of_length_le (by omega)]
  | succ d ih =>
    intro i hi
    refine Ev.step (fun _ => rfl) ?_
    have hx := hr _ (rowR_mem r i (by omega))
    have hlt := lens_take_le r i
    have hml : (markL q (r.take i)).length = i := by rw [markL_length, List.length_take]; omega
    have e1 : rd_L1 (markL q (r.take i) ++ r.drop i) (i : Int) = rowR r (i : Int) := by
      rw [rdL_eq, rowR_nat _ i (by rw [List.length_append, hml, List.length_drop]; omega), List.getElem_append_right (by omega)]
      simp only [hml, drop_rowR r i (show i < r.length by omega), Nat.sub_self, List.getElem_cons_zero]
    have e2 : (markL q (r.take i) ++ r.drop i).set (i : Int).toNat (iota (q + lens (r.take i)) (rowR r (i : Int)).length) = markL q (r.take (i + 1)) ++ r.drop (i + 1) := by
      rw [Int.toNat_natCast, List.set_append_right _ _ (by omega), hml, Nat.sub_self, drop_rowR r i (by omega), List.set_cons_zero, markL_take r q i (by omega), List.append_assoc]
      rfl
    have hm : Ev (fun k => laws_markIntS.f k (rd_L1 (markL q (r.take i) ++ r.drop i) (i : Int)) (q + lens (r.take i))) (q + lens (r.take i) + (rowR r (i : Int)).length, iota (q + lens (r.take i)) (rowR r (i : Int)).length) := by
      rw [e1]
      exact markIntS_ev _ _ (by omega) (by omega) hx
    refine ev_pos (by rw [List.length_append, hml, List.length_drop]; omega) (ev_pos (by omega) (Ev.bind hm ?_))
    show Ev (fun k => laws_markIntSS.l0 k ((markL q (r.take i) ++ r.drop i).set (i : Int).toNat (iota (q + lens (r.take i)) (rowR r (i : Int)).length)) (q + lens (r.take i) + (rowR r (i : Int)).length) (wrap64 ((i : Int) + 1))) _
    rw [e2, w64n i (by omega), show q + (lens (r.take i) : Int) + ((rowR r (i : Int)).length : Int) = q + ((lens (r.take (i + 1)) : Nat) : Int) from by rw [lens_take r i (by omega)]; omega]
    exact ih (i + 1) (by omega)
theorem markIntSS_ev (r : List (List Int)) (q : Int) (hq0 : 0 ≤ q) (hq : q ≤ 1000000000) (hl : r.length ≤ 1000000000) (hr : ∀ x ∈ r, x.length ≤ 1000000000) (hs : lens r ≤ 10000000000000) : Ev (fun k => laws_markIntSS.f k r q) (q + lens r, markL q r) := by
  unfold laws_markIntSS.f
  have := markIntSS_loop r q hq0 hq hl hr hs r.length 0 (by omega)
  simpa [markL, lens] using this

theorem afterP_len (u : List Int) (r : List (List Int)) (x : List Int) : (afterP u r x).1.length ≤ 3 := by
  unfold afterP
  by_cases h : startB u = true ∧ ruleB u.length r = true ∧ wordB u.length x = true
  · rw [if_pos h]
    by_cases hz : waysL r u x = 0
    · rw [if_pos hz]; simp
    · rw [if_neg hz]
      obtain ⟨n1, n2, n3, _⟩ := near_start h.1
      have hk := (ruleB_known h.2.1).1
      rw [Int.toNat_natCast] at hk
      obtain ⟨w1, _⟩ := wordB_bounds h.2.2
      have := (near_after hk x 0 u n1 w1).1
      show (afterL r u x).length ≤ 3
      omega
  · rw [if_neg h]; simp
theorem FnExactAfterWord (u : List Int) (hlu : u.length ≤ maxLen) (r : List (List Int)) (hl : r.length ≤ maxLen) (hr : ∀ x ∈ r, x.length ≤ maxLen) (x : List Int) (hlx : x.length ≤ maxLen) : ∃ k, laws_FnExactAfterWord.ok k u r x := by
  unfold maxLen at hl hr
  by_cases hu : (u.length : Int) > 1048576
  · exact ⟨0, .inl hu⟩
  by_cases hx : (x.length : Int) > 1048576
  · exact ⟨0, .inr (.inl ⟨hu, hx⟩)⟩
  obtain ⟨v, ⟨n0, e0⟩, hq⟩ := szIntSS_ev r (by omega) (fun x hx => by have := hr x hx; omega)
  by_cases h : v < 0
  · exact ⟨n0, .inr (.inr ⟨hu, hx, v, e0 _ (Nat.le_refl _), .inl h⟩)⟩
  obtain ⟨h1, h2⟩ := hq (by omega)
  have hr' : ∀ x ∈ r, x.length ≤ 1000000000 := fun x hx => by have := h2 x hx; omega
  have hs : lens r ≤ 10000000000000 := by
    have a1 := lens_bound r 1048576 h2
    have a2 : r.length * 1048576 ≤ 1048576 * 1048576 := Nat.mul_le_mul_right _ h1
    omega
  have hg := afterP_len u r x
  obtain ⟨n1, e1⟩ := toIntS_ev u (by omega)
  obtain ⟨n2, e2⟩ := toIntSS_ev r (by omega) hr'
  obtain ⟨n3, e3⟩ := toIntS_ev x (by omega)
  obtain ⟨n4, e4⟩ := specAfterWord_ev u r x (by omega) (by omega) hr' (by omega)
  obtain ⟨n5, e5⟩ := implAfterWord_ev u r x (by omega) (by omega) hr' (by omega)
  obtain ⟨n6, e6⟩ := eqIntS_ev (afterP u r x).1 (by omega)
  obtain ⟨n7, e7⟩ := eqIntS_ev u (by omega)
  obtain ⟨n8, e8⟩ := eqIntSS_ev r (by omega) hr'
  obtain ⟨n9, e9⟩ := eqIntS_ev x (by omega)
  obtain ⟨n10, e10⟩ := markIntS_ev u 1 (by omega) (by omega) (by omega)
  obtain ⟨n11, e11⟩ := markIntSS_ev r (1 + u.length) (by omega) (by omega) (by omega) hr' hs
  obtain ⟨n12, e12⟩ := markIntS_ev x (1 + u.length + lens r) (by omega) (by omega) (by omega)
  obtain ⟨n13, e13⟩ := markIntS_ev (afterP u r x).1 1 (by omega) (by omega) (by omega)
  obtain ⟨n14, e14⟩ := heldIntS_ev (afterP u r x).1.length 1 (by omega) (by omega) (by omega)
  exact ⟨n0 + n1 + n2 + n3 + n4 + n5 + n6 + n7 + n8 + n9 + n10 + n11 + n12 + n13 + n14, .inr (.inr ⟨hu, hx, v, e0 _ (by omega), .inr ⟨h, (afterP u r x).1, (afterP u r x).2, _, _, _, _, _, _, _, _, e1 _ (by omega), e2 _ (by omega), e3 _ (by omega), e4 _ (by omega), e5 _ (by omega), e6 _ (by omega), e7 _ (by omega), e8 _ (by omega), e9 _ (by omega), e10 _ (by omega), e11 _ (by omega), e12 _ (by omega), e13 _ (by omega), e14 _ (by omega), by omega, by omega⟩⟩)⟩

end Go.Proofs.Ytlakokejoifamaa.Pure
