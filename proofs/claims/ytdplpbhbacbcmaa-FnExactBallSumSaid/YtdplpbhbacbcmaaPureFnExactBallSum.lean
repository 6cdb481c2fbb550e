/- The law FnExactBallSum: for every input the printed function of the law answers true. No condition. -/
import Derived.Test.YtdplpbhbacbcmaaPFnExactBallSumx5
import Derived.Test.YtdplpbhbacbcmaaPlain
set_option linter.unusedVariables false
set_option linter.unusedSimpArgs false
namespace Go.Proofs.Ytdplpbhbacbcmaa.Pure
open Go.RowKit Go.Proofs.Ytdplpbhbacbcmaa.PFnExactBallSum Go.Proofs.YtdplpbhbacbcmaaW.PrintWords Go.Proofs.YtdplpbhbacbcmaaW.PrintLast Go.Proofs.YtdplpbhbacbcmaaW.PrintMore Go.Proofs.Ytdplpbhbacbcmaa.Plain

theorem l1In_f (x a b : Int) : spec_l1In.f x a b = some (inB x a b) := by
  unfold spec_l1In.f inB
  by_cases h : x ≥ a
  · rw [if_pos h]; congr 1; simp [h]
  · rw [if_neg h]; congr 1; simp; omega

theorem toIntS_set (l : List Int) (i : Nat) (h : i < l.length) : (l.take i ++ List.replicate (l.length - i) 0).set i (rd l (i : Int)) = l.take (i + 1) ++ List.replicate (l.length - (i + 1)) 0 := by
  rw [take_rd l i h, List.set_append_right _ _ (by rw [List.length_take]; omega)]
  have e : l.length - i = (l.length - (i + 1)) + 1 := by omega
  rw [e, List.replicate_succ, List.length_take, Nat.min_eq_left (by omega), Nat.sub_self, List.set_cons_zero, List.append_assoc]
  rfl
theorem toIntS_loop (l : List Int) (hl : l.length ≤ 1000000000) (d : Nat) : ∀ i : Nat, i + d = l.length → Ev (fun k => laws_toIntS.l0 k l (l.take i ++ List.replicate (l.length - i) 0) (i : Int)) l := by
  induction d with
  | zero =>
    intro i hi
    refine Ev.step (fun _ => rfl) ?_
    refine ev_neg (by omega) ?_
    have : i = l.length := by omega
    subst this
    refine ev_eq (Ev.now _) ?_
    simp
  | succ d ih =>
    intro i hi
    refine Ev.step (fun _ => rfl) ?_
    refine ev_pos (by omega) (ev_pos (by omega) (ev_pos (by simp; omega) ?_))
    rw [show ((i : Int)).toNat = i from by simp, toIntS_set l i (by omega), w64n i (by omega)]
    exact ih (i + 1) (by omega)
theorem toIntS_ev (l : List Int) (hl : l.length ≤ 1000000000) : Ev (fun k => laws_toIntS.f k l) l := by
  unfold laws_toIntS.f
  refine ev_pos (by omega) (ev_pos (by simp; omega) ?_)
  have := toIntS_loop l hl l.length 0 (by omega)
  simpa using this

theorem eqIntS_loop (l : List Int) (hl : l.length ≤ 1000000000) (d : Nat) : ∀ i : Nat, i + d = l.length → Ev (fun k => laws_eqIntS.l0 k l l (i : Int)) true := by
  induction d with
  | zero =>
    intro i hi
    refine Ev.step (fun _ => rfl) ?_
    exact ev_neg (by omega) (Ev.now _)
  | succ d ih =>
    intro i hi
    refine Ev.step (fun _ => rfl) ?_
    refine ev_pos (by omega) (ev_pos (by omega) (ev_pos (by omega) (ev_pos rfl ?_)))
    rw [w64n i (by omega)]
    exact ih (i + 1) (by omega)
theorem eqIntS_ev (l : List Int) (hl : l.length ≤ 1000000000) : Ev (fun k => laws_eqIntS.f k l l) true := by
  unfold laws_eqIntS.f
  exact ev_pos rfl (eqIntS_loop l hl l.length 0 (by omega))

theorem specUrnOk_loop (l : List Int) (hl : l.length ≤ 1000000000) (d : Nat) : ∀ i : Nat, i + d = l.length → Ev (fun k => spec_UrnOk.l0 k l (i : Int)) ((l.drop i).all urnE && colB l.length) := by
  induction d with
  | zero =>
    intro i hi
    refine Ev.step (fun _ => rfl) ?_
    refine ev_neg (by omega) ?_
    rw [l1In_f, List.drop_eq_nil_of_le (by omega)]
    exact Ev.now _
  | succ d ih =>
    intro i hi
    refine Ev.step (fun _ => rfl) ?_
    refine ev_pos (by omega) (ev_pos (by omega) ?_)
    rw [drop_rd l i (by omega), List.all_cons, l1In_f, show inB (rd l (i : Int)) 0 40 = urnE (rd l (i : Int)) from rfl]
    cases h : urnE (rd l (i : Int)) with
    | false => exact Ev.now _
    | true =>
      simp only [Option.bind_some, if_true, Bool.true_and]
      rw [w64n i (by omega)]
      exact ih (i + 1) (by omega)
theorem specUrnOk_ev (l : List Int) (hl : l.length ≤ 1000000000) : Ev (fun k => spec_UrnOk.f k l) (urnB l) := by
  unfold spec_UrnOk.f
  exact specUrnOk_loop l hl l.length 0 (by omega)

theorem specStartOk_loop (l : List Int) (hl : l.length ≤ 1000000000) (d : Nat) : ∀ i : Nat, i + d = l.length → Ev (fun k => spec_StartOk.l0 k l (i : Int)) ((l.drop i).all (fun x => decide (x ≤ 10)) && urnB l) := by
  induction d with
  | zero =>
    intro i hi
    refine Ev.step (fun _ => rfl) ?_
    refine ev_neg (by omega) ?_
    rw [List.drop_eq_nil_of_le (by omega)]
    exact Ev.bind (specUrnOk_ev l hl) (Ev.now _)
  | succ d ih =>
    intro i hi
    refine Ev.step (fun _ => rfl) ?_
    refine ev_pos (by omega) (ev_pos (by omega) ?_)
    rw [drop_rd l i (by omega), List.all_cons]
    by_cases h1 : rd l (i : Int) > 10
    · refine ev_pos h1 (ev_eq (Ev.now _) ?_)
      rw [show decide (rd l (i : Int) ≤ 10) = false from by simp; omega]; rfl
    · refine ev_neg h1 ?_
      rw [w64n i (by omega), show decide (rd l (i : Int) ≤ 10) = true from by simp; omega, Bool.true_and]
      exact ih (i + 1) (by omega)
theorem specStartOk_ev (l : List Int) (hl : l.length ≤ 1000000000) : Ev (fun k => spec_StartOk.f k l) (startB l) := by
  unfold spec_StartOk.f
  exact specStartOk_loop l hl l.length 0 (by omega)

theorem rdL_eq (xs : List (List Int)) (i : Int) : rd_L1 xs i = rowR xs i := rfl

theorem specRuleOk_inner (c : Int) (rule : List (List Int)) (i : Nat) (rest : Bool) (hi : i < rule.length) (hl : rule.length ≤ 100000000) (hl2 : (rowR rule i).length ≤ 1000000000) (hc : ((rowR rule i).length : Int) = c) (H : Ev (fun k => spec_RuleOk.l0 k c rule ((i + 1 : Nat) : Int)) rest) (d : Nat) : ∀ j : Nat, j + d = (rowR rule i).length →
    Ev (fun k => spec_RuleOk.l1 k c rule (i : Int) (j : Int)) (entsB i j ((rowR rule i).drop j) && rest) := by
  induction d with
  | zero =>
    intro j hj
    refine Ev.step (fun _ => rfl) ?_
    refine ev_neg (by omega) ?_
    rw [List.drop_eq_nil_of_le (by omega), w64n i (by omega)]
    exact ev_eq H (by simp [entsB])
  | succ d ih =>
    intro j hj
    refine Ev.step (fun _ => rfl) ?_
    refine ev_pos (by omega) (ev_pos (by omega) (ev_pos (by omega) (ev_pos (by omega) ?_)))
    refine ev_pos (show (j : Int) < ((rowR rule i).length : Int) by omega) ?_
    rw [drop_rd _ j (by omega), entsB, rdL_eq, l1In_f, w64n j (by omega)]
    have no : entB i j (rd (rowR rule i) (j : Int)) = false → (entB i j (rd (rowR rule i) (j : Int)) && entsB i (j + 1) ((rowR rule i).drop (j + 1)) && rest) = false := fun h => by rw [h]; rfl
    have go : entB i j (rd (rowR rule i) (j : Int)) = true → Ev (fun k => spec_RuleOk.l1 k c rule (i : Int) ((j + 1 : Nat) : Int)) (entB i j (rd (rowR rule i) (j : Int)) && entsB i (j + 1) ((rowR rule i).drop (j + 1)) && rest) := fun h => by
      rw [h, Bool.true_and]
      exact ih (j + 1) (by omega)
    refine Ev.bind (Ev.now _) ?_
    by_cases h1 : 0 ≤ rd (rowR rule i) (j : Int) ∧ rd (rowR rule i) (j : Int) ≤ 3
    · exact ev_pos (by simp [inB]; omega) (go (by simp [entB]; omega))
    refine ev_neg (by simp [inB]; omega) ?_
    by_cases h3 : rd (rowR rule i) (j : Int) = -1
    · refine ev_pos h3 ?_
      by_cases h4 : (j : Int) = (i : Int)
      · exact ev_pos h4 (go (by simp [entB]; omega))
      · refine ev_neg h4 (ev_eq (Ev.now _) ?_)
        rw [no (by simp [entB, h3]; omega)]
    · refine ev_neg h3 (ev_eq (Ev.now _) ?_)
      rw [no (by simp [entB]; omega)]
theorem specRuleOk_loop (c : Int) (rule : List (List Int)) (hl : rule.length ≤ 100000000) (hr : ∀ r ∈ rule, r.length ≤ 1000000000) (d : Nat) : ∀ i : Nat, i + d = rule.length →
    Ev (fun k => spec_RuleOk.l0 k c rule (i : Int)) (rowsB c i (rule.drop i) && (colB c && decide ((rule.length : Int) = c))) := by
  induction d with
  | zero =>
    intro i hi
    refine Ev.step (fun _ => rfl) ?_
    refine ev_neg (by omega) ?_
    rw [l1In_f, show inB c 1 3 = colB c from rfl, List.drop_eq_nil_of_le (by omega)]
    cases h : colB c
    · exact Ev.now _
    · exact ev_eq (Ev.now _) (by simp [rowsB]; rfl)
  | succ d ih =>
    intro i hi
    refine Ev.step (fun _ => rfl) ?_
    refine ev_pos (by omega) (ev_pos (by omega) ?_)
    rw [rdL_eq, drop_rowR rule i (by omega), rowsB, rowB]
    by_cases h : ((rowR rule (i : Int)).length : Int) = c
    · refine ev_pos h ?_
      have := specRuleOk_inner c rule i _ (by omega) hl (hr _ (rowR_mem rule i (by omega))) h (ih (i + 1) (by omega)) (rowR rule (i : Int)).length 0 (by omega)
      refine ev_eq this ?_
      simp [h, Bool.and_assoc]
    · refine ev_neg h (ev_eq (Ev.now _) ?_)
      simp [h]
theorem specRuleOk_ev (c : Int) (rule : List (List Int)) (hl : rule.length ≤ 100000000) (hr : ∀ r ∈ rule, r.length ≤ 1000000000) : Ev (fun k => spec_RuleOk.f k c rule) (ruleB c rule) := by
  unfold spec_RuleOk.f
  exact specRuleOk_loop c rule hl hr rule.length 0 (by omega)

theorem l4After_loop {B : Int} (c : Nat) (r : List (List Int)) (hr : RuleK c r) (u : List Int) (n : Nat) (hn6 : n ≤ 1000) (hn : Near B c n u) (q : Int) (h0 : 0 ≤ q) (h1 : q < (c : Int)) (d : Nat) : ∀ i : Nat, i + d = c → Ev (fun k => spec_l4After.l0 k u r q ((addL u (rowR r q)).take i) (i : Int)) (addL u (rowR r q)) := by
  obtain ⟨m, rfl⟩ := Int.eq_ofNat_of_zero_le h0
  have hrow := hr.rows m (by omega)
  have hla : (addL u (rowR r (m : Int))).length = c := by rw [addL_length _ _ (by rw [hrow, hn.1]), hn.1]
  have hc := hr.c3
  induction d with
  | zero =>
    intro i hi
    refine Ev.step (fun _ => rfl) ?_
    refine ev_neg (by rw [hn.1]; omega) (ev_eq (Ev.now _) ?_)
    rw [List.take_of_length_le (by omega)]
  | succ d ih =>
    intro i hi
    refine Ev.step (fun _ => rfl) ?_
    refine ev_pos (by rw [hn.1]; omega) (ev_pos (by omega) (ev_pos (by omega) (ev_pos (by rw [hr.len]; omega) (ev_pos (show (i : Int) < ((rowR r (m : Int)).length : Int) by rw [hrow]; omega) (ev_pos (by rw [List.length_take]; omega) ?_)))))
    have h2 := hn.2.1 i (by omega); have h5 := hn.2.2
    have h3 := hr.ent m i (by omega) (by omega)
    have h4 := addL_rd u (rowR r (m : Int)) i (by rw [hn.1]; omega) (by rw [hrow, hn.1])
    rw [rdL_eq, w64n i (by omega), w64 (by omega) (by omega), ← h4, ← take_rd _ i (by omega)]
    exact ih (i + 1) (by omega)
theorem l4After_ev {B : Int} (c : Nat) (r : List (List Int)) (hr : RuleK c r) (u : List Int) (n : Nat) (hn6 : n ≤ 1000) (hn : Near B c n u) (q : Int) (h0 : 0 ≤ q) (h1 : q < (c : Int)) : Ev (fun k => spec_l4After.f k u r q) (addL u (rowR r q)) := by
  unfold spec_l4After.f
  exact l4After_loop c r hr u n hn6 hn q h0 h1 c 0 (by omega)

theorem szIntS_f (l : List Int) (n : Int) (hl : l.length ≤ 9223372036854775807) (h0 : 0 ≤ n) (h1 : n ≤ 1048576) : ∃ v, laws_szIntS.f l n = some v ∧ v ≤ 1048576 ∧ (0 ≤ v → l.length ≤ 1048576) := by
  unfold laws_szIntS.f
  rw [w64 (by omega) (by omega)]
  by_cases h : n - (l.length : Int) < 0
  · exact ⟨-1, if_pos h, by omega, by omega⟩
  · exact ⟨n - l.length, if_neg h, by omega, by omega⟩
theorem szIntSS_loop (r : List (List Int)) (hl : r.length ≤ 1048576) (hr : ∀ x ∈ r, x.length ≤ 9223372036854775807) (d : Nat) : ∀ (i : Nat) (n : Int), 0 ≤ n → n ≤ 1048576 → i + d = r.length → (∀ x ∈ r.take i, x.length ≤ 1048576) →
    ∃ v, Ev (fun k => laws_szIntSS.l0 k r n (i : Int)) v ∧ (0 ≤ v → ∀ x ∈ r, x.length ≤ 1048576) := by
  induction d with
  | zero =>
    intro i n hn0 hn hi hx
    refine ⟨n, Ev.step (fun _ => rfl) (ev_neg (by omega) (Ev.now _)), fun _ => ?_⟩
    rwa [List.take_of_length_le (by omega)] at hx
  | succ d ih =>
    intro i n hn0 hn hi hx
    obtain ⟨v, hv, h1, h2⟩ := szIntS_f (rowR r (i : Int)) n (hr _ (rowR_mem r i (by omega))) hn0 hn
    by_cases h3 : v < 0
    · refine ⟨-1, Ev.step (fun _ => rfl) (ev_pos (by omega) (ev_pos (by omega) ?_)), fun h => by omega⟩
      rw [rdL_eq, hv]
      exact Ev.bind (Ev.now _) (ev_pos h3 (Ev.now _))
    · obtain ⟨z, hz, hQ⟩ := ih (i + 1) v (by omega) h1 (by omega) (fun x hx' => by
        rw [take_rowR r i (by omega)] at hx'
        rcases List.mem_append.1 hx' with hx' | hx'
        · exact hx x hx'
        · have e : x = rowR r (i : Int) := by simpa using hx'
          rw [e]; exact h2 (by omega))
      refine ⟨z, Ev.step (fun _ => rfl) (ev_pos (by omega) (ev_pos (by omega) ?_)), hQ⟩
      rw [rdL_eq, hv, w64n i (by omega)]
      exact Ev.bind (Ev.now _) (ev_neg h3 hz)
theorem szIntSS_ev (r : List (List Int)) (hl : r.length ≤ 9223372036854775807) (hr : ∀ x ∈ r, x.length ≤ 9223372036854775807) :
    ∃ v, Ev (fun k => laws_szIntSS.f k r 1048576) v ∧ (0 ≤ v → r.length ≤ 1048576 ∧ ∀ x ∈ r, x.length ≤ 1048576) := by
  unfold laws_szIntSS.f
  rw [w64 (by omega) (by omega)]
  by_cases h : (1048576 : Int) - (r.length : Int) < 0
  · exact ⟨-1, ev_pos h (Ev.now _), fun h => by omega⟩
  · obtain ⟨v, hv, hQ⟩ := szIntSS_loop r (by omega) hr r.length 0 (1048576 - r.length) (by omega) (by omega) (by omega) (by simp)
    exact ⟨v, ev_neg h hv, fun h => ⟨by omega, hQ h⟩⟩

theorem toIntSS_set (l : List (List Int)) (i : Nat) (h : i < l.length) : (l.take i ++ List.replicate (l.length - i) []).set i (rowR l (i : Int)) = l.take (i + 1) ++ List.replicate (l.length - (i + 1)) [] := by
  rw [take_rowR l i h, List.set_append_right _ _ (by rw [List.length_take]; omega)]
  have e : l.length - i = (l.length - (i + 1)) + 1 := by omega
  rw [e, List.replicate_succ, List.length_take, Nat.min_eq_left (by omega), Nat.sub_self, List.set_cons_zero, List.append_assoc]
  rfl
theorem toIntSS_loop (l : List (List Int)) (hl : l.length ≤ 100000000) (hr : ∀ x ∈ l, x.length ≤ 1000000000) (d : Nat) : ∀ i : Nat, i + d = l.length → Ev (fun k => laws_toIntSS.l0 k l (l.take i ++ List.replicate (l.length - i) []) (i : Int)) l := by
  induction d with
  | zero =>
    intro i hi
    refine Ev.step (fun _ => rfl) ?_
    refine ev_neg (by omega) ?_
    have : i = l.length := by omega
    subst this
    refine ev_eq (Ev.now _) ?_
    simp
  | succ d ih =>
    intro i hi
    refine Ev.step (fun _ => rfl) ?_
    refine ev_pos (by omega) (ev_pos (by omega) (Ev.bind (toIntS_ev _ (hr _ (rowR_mem l i (by omega)))) (ev_pos (by simp; omega) ?_)))
    rw [show ((i : Int)).toNat = i from by simp, rdL_eq, toIntSS_set l i (by omega), w64n i (by omega)]
    exact ih (i + 1) (by omega)
theorem toIntSS_ev (l : List (List Int)) (hl : l.length ≤ 100000000) (hr : ∀ x ∈ l, x.length ≤ 1000000000) : Ev (fun k => laws_toIntSS.f k l) l := by
  unfold laws_toIntSS.f
  refine ev_pos (by omega) (ev_pos (by simp; omega) ?_)
  have := toIntSS_loop l hl hr l.length 0 (by omega)
  simpa using this

theorem eqIntSS_loop (r : List (List Int)) (hl : r.length ≤ 100000000) (hr : ∀ x ∈ r, x.length ≤ 1000000000) (d : Nat) : ∀ i : Nat, i + d = r.length → Ev (fun k => laws_eqIntSS.l0 k r r (i : Int)) true := by
  induction d with
  | zero =>
    intro i hi
    refine Ev.step (fun _ => rfl) ?_
    exact ev_neg (by omega) (Ev.now _)
  | succ d ih =>
    intro i hi
    refine Ev.step (fun _ => rfl) ?_
    refine ev_pos (by omega) (ev_pos (by omega) (ev_pos (by omega) (Ev.bind (eqIntS_ev _ (hr _ (rowR_mem r i (by omega)))) (ev_pos rfl ?_))))
    rw [w64n i (by omega)]
    exact ih (i + 1) (by omega)
theorem eqIntSS_ev (r : List (List Int)) (hl : r.length ≤ 100000000) (hr : ∀ x ∈ r, x.length ≤ 1000000000) : Ev (fun k => laws_eqIntSS.f k r r) true := by
  unfold laws_eqIntSS.f
  exact ev_pos rfl (eqIntSS_loop r hl hr r.length 0 (by omega))

theorem l4Balls_loop (c m n : Nat) (r : List (List Int)) (hr : RuleK c r) (q : Int) (q0 : 0 ≤ q) (q1 : q < (c : Int)) (u : List Int) (hn : Near 10 c n u) (hu : ∀ i : Nat, i < c → 0 ≤ rd u i) (h6 : n + (m + 1) ≤ 6) (ih : ∀ v, Near 10 c (n + 1) v → (∀ i : Nat, i < c → 0 ≤ rd v i) → Ev (fun k => spec_l4Balls.f k v r (m : Int) q) (wsum c m (ballF r q v))) (d : Nat) : ∀ i : Nat, i + d = c → Ev (fun k => spec_l4Balls.l0 k u r ((m + 1 : Nat) : Int) q (sumN (fun k => mx 0 (rd u (k : Int)) * wsum c m (ballF r q (addL u (rowR r (k : Int))))) i) (i : Int)) (sumN (fun k => mx 0 (rd u (k : Int)) * wsum c m (ballF r q (addL u (rowR r (k : Int))))) c) := by
  have hc := hr.c3
  have hT : ∀ i : Nat, i < c → 0 ≤ mx 0 (rd u (i : Int)) * wsum c m (ballF r q (addL u (rowR r (i : Int)))) ∧ mx 0 (rd u (i : Int)) * wsum c m (ballF r q (addL u (rowR r (i : Int)))) ≤ 58 * (729 * (38068692544 * 58)) := by
    intro i hi
    have h1 := near_rd hn (i : Int) (by omega) (by omega)
    by_cases hp : rd u (i : Int) > 0
    · have hv := pos_step hn.1 hr hu (i : Int) (by omega) (by omega) (by omega)
      rw [mx_r 0 _ (by omega)]
      have h3 := wsum_small c m hc (by omega) (38068692544 * 58) (by omega) (ballF r q (addL u (rowR r (i : Int)))) (fun w hl hw => balls58 hr q q0 q1 w (n + 1) _ (near_step hn hr (i : Int) (by omega) (by omega)) hv (by omega) hw)
      exact mulb (by omega) (by omega) h3.1 h3.2
    · rw [mx_l 0 _ (by omega), Int.zero_mul]
      omega
  induction d with
  | zero =>
    intro i hi
    refine Ev.step (fun _ => rfl) ?_
    obtain rfl : i = c := by omega
    exact ev_neg (by rw [hn.1]; omega) (Ev.now _)
  | succ d ihd =>
    intro i hi
    refine Ev.step (fun _ => rfl) ?_
    refine ev_pos (by rw [hn.1]; omega) (ev_pos (by omega) ?_)
    have h1 := hT i (by omega)
    have h2 := sumN_bound _ _ i (fun j hj => hT j (by omega))
    have h3 : (i : Int) * (58 * (729 * (38068692544 * 58))) ≤ 3 * (58 * (729 * (38068692544 * 58))) := Int.mul_le_mul_of_nonneg_right (by omega) (by omega)
    have hnx := ihd (i + 1) (by omega)
    simp only [sumN] at hnx
    by_cases hp : rd u (i : Int) > 0
    · rw [mx_r 0 _ (by omega)] at h1 hnx
      refine ev_pos hp (Ev.bind (l4After_ev c r hr u n (by omega) hn (i : Int) (by omega) (by omega)) ?_)
      rw [show wrap64 (((m + 1 : Nat) : Int) - 1) = (m : Int) from by rw [w64 (by omega) (by omega)]; omega]
      refine Ev.bind (ih _ (near_step hn hr (i : Int) (by omega) (by omega)) (pos_step hn.1 hr hu (i : Int) (by omega) (by omega) (by omega))) ?_
      rw [w64 (x := rd u (i : Int) * _) (by omega) (by omega), w64 (x := _ + _) (by omega) (by omega), w64n i (by omega)]
      exact hnx
    · rw [mx_l 0 _ (by omega), Int.zero_mul, Int.add_zero] at hnx
      refine ev_neg hp ?_
      rw [w64n i (by omega)]
      exact hnx
theorem l4Balls_ev (c : Nat) (r : List (List Int)) (hr : RuleK c r) (q : Int) (q0 : 0 ≤ q) (q1 : q < (c : Int)) : ∀ (m n : Nat) (u : List Int), Near 10 c n u → (∀ i : Nat, i < c → 0 ≤ rd u i) → n + m ≤ 6 → Ev (fun k => spec_l4Balls.f k u r (m : Int) q) (wsum c m (ballF r q u)) := by
  intro m
  induction m with
  | zero =>
    intro n u hn hu h6
    refine Ev.step (fun _ => by rw [spec_l4Balls.f]) ?_
    refine ev_pos rfl (ev_pos q0 (ev_pos (by rw [hn.1]; exact q1) (ev_eq (Ev.now _) ?_)))
    simp [wsum, ballF, waysL, afterL]
  | succ m ih =>
    intro n u hn hu h6
    refine Ev.step (fun _ => by rw [spec_l4Balls.f]) ?_
    refine ev_neg (by omega) ?_
    rw [wsum_balls]
    exact l4Balls_loop c m n r hr q q0 q1 u hn hu h6 (fun v hv hw => ih (n + 1) v hv hw (by omega)) c 0 (by omega)

theorem specBallSum_ev (u : List Int) (r : List (List Int)) (m q : Int) (hu : u.length ≤ 1000000000) (hl : r.length ≤ 100000000) (hr : ∀ x ∈ r, x.length ≤ 1000000000) : Ev (fun k => spec_BallSum.f k u r m q) (ballSumP u r m q) := by
  unfold spec_BallSum.f ballSumP
  refine Ev.bind (specStartOk_ev u hu) ?_
  by_cases h1 : startB u = true
  case neg =>
    refine ev_neg h1 (ev_eq (Ev.now _) ?_)
    rw [if_neg (by simp [h1])]
  refine ev_pos h1 (Ev.bind (specRuleOk_ev _ r hl hr) ?_)
  by_cases h2 : ruleB u.length r = true
  case neg =>
    refine ev_neg h2 (ev_eq (Ev.now _) ?_)
    rw [if_neg (by simp [h2])]
  refine ev_pos h2 ?_
  simp only [l1In_f, Option.bind_some]
  by_cases h3 : 0 ≤ m ∧ m ≤ 6
  case neg =>
    refine ev_neg (by simpa [inB] using h3) (ev_eq (Ev.now _) ?_)
    rw [if_neg (fun h => h3 h.2.1)]
  refine ev_pos (by simpa [inB] using h3) ?_
  have ha : (startB u && ruleB u.length r) = true := by rw [h1, h2]; rfl
  obtain ⟨hk, n1, n2, n3, n4⟩ := asked_known ha
  rw [w64 (x := (u.length : Int) - 1) (by omega) (by omega)]
  by_cases h4 : 0 ≤ q ∧ q < (u.length : Int)
  case neg =>
    refine ev_neg (by simp [inB]; omega) (ev_eq (Ev.now _) ?_)
    rw [if_neg (fun h => h4 h.2.2)]
  refine ev_pos (by simp [inB]; omega) ?_
  obtain ⟨n, rfl⟩ := Int.eq_ofNat_of_zero_le h3.1
  rw [if_pos ⟨ha, h3, h4⟩, Int.toNat_natCast]
  exact Ev.bind (l4Balls_ev _ r hk q h4.1 h4.2 n 0 u n1 n4 (by omega)) (Ev.now _)

theorem implBallSum_ev (u : List Int) (r : List (List Int)) (m q : Int) (hu : u.length ≤ 1000000000) (hl : r.length ≤ 100000000) (hr : ∀ x ∈ r, x.length ≤ 1000000000) : Ev (fun k => impl_BallSum.f k u r m q) (ballSumP u r m q) := by
  unfold impl_BallSum.f
  exact ev_pos ⟨hu, hl, hr⟩ (Ev.now _)

theorem FnExactBallSum (u : List Int) (hlu : u.length ≤ maxLen) (r : List (List Int)) (hl : r.length ≤ maxLen) (hr : ∀ x ∈ r, x.length ≤ maxLen) (m q : Int) : ∃ k, laws_FnExactBallSum.f k u r m q = some true := by
  refine Ev.rounds (g := fun k => laws_FnExactBallSum.f k u r m q) ?_
  unfold maxLen at hl hr
  unfold laws_FnExactBallSum.f
  by_cases hu : (u.length : Int) > 1048576
  · exact ev_pos hu (Ev.now _)
  refine ev_neg hu ?_
  obtain ⟨v, hv, hq⟩ := szIntSS_ev r (by omega) (fun x hx => by have := hr x hx; omega)
  refine Ev.bind hv ?_
  by_cases h : v < 0
  · exact ev_pos h (Ev.now _)
  refine ev_neg h ?_
  obtain ⟨h1, h2⟩ := hq (by omega)
  have hr' : ∀ x ∈ r, x.length ≤ 1000000000 := fun x hx => by have := h2 x hx; omega
  have hu' : u.length ≤ 1000000000 := by omega
  have ht := toIntSS_ev r (by omega) hr'
  have tu := toIntS_ev u hu'
  refine Ev.bind tu (Ev.bind ht (Ev.bind (specBallSum_ev u r m q hu' (by omega) hr') (Ev.bind tu (Ev.bind ht (Ev.bind (implBallSum_ev u r m q hu' (by omega) hr') (ev_pos rfl ?_))))))
  exact Ev.bind tu (Ev.bind (eqIntS_ev u hu') (ev_pos rfl (Ev.bind ht (Ev.bind (eqIntSS_ev r (by omega) hr') (ev_pos rfl (Ev.now _))))))

end Go.Proofs.Ytdplpbhbacbcmaa.Pure
