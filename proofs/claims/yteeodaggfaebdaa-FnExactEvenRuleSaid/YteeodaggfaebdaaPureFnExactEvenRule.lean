/- The law FnExactEvenRule: for every input the printed function of the law answers true. No condition. -/
import Derived.Test.YteeodaggfaebdaaPFnExactEvenRulex3
import Derived.Test.YteeodaggfaebdaaPlain
set_option linter.unusedVariables false
set_option linter.unusedSimpArgs false
namespace Go.Proofs.Yteeodaggfaebdaa.Pure
open Go.RowKit Go.Proofs.Yteeodaggfaebdaa.PFnExactEvenRule Go.Proofs.YteeodaggfaebdaaW.PrintWords Go.Proofs.YteeodaggfaebdaaW.PrintLast Go.Proofs.YteeodaggfaebdaaW.PrintMore Go.Proofs.Yteeodaggfaebdaa.Plain

theorem l1In_f (x a b : Int) : spec_l1In.f x a b = some (inB x a b) := by
  unfold spec_l1In.f inB
  by_cases h : x ≥ a
  · rw [if_pos h]; congr 1; simp [h]
  · rw [if_neg h]; congr 1; simp; omega

theorem coloursOk_f (x : Int) : impl_coloursOk.f x = some (colB x) := by
  unfold impl_coloursOk.f colB
  by_cases h : x ≥ 1
  · rw [if_pos h]; congr 1; simp [h]
  · rw [if_neg h]; congr 1; simp; omega

theorem toIntS_set (l : List Int) (i : Nat) (h : i < l.length) : (l.take i ++ List.replicate (l.length - i) 0).set i (rd l (i : Int)) = l.take (i + 1) ++ List.replicate (l.length - (i + 1)) 0 := by
  rw [take_rd l i h, List.set_append_right _ _ (by rw [List.length_take]; omega)]
  have e : l.length - i = (l.length - (i + 1)) + 1 := by omega
  rw [e, List.replicate_succ, List.length_take, Nat.min_eq_left (by omega), Nat.sub_self, List.set_cons_zero, List.append_assoc]
  rfl
theorem toIntS_loop (l : List Int) (hl : l.length ≤ 1000000000) (d : Nat) : ∀ i : Nat, i + d = l.length → Ev (fun k => laws_toIntS.l0 k l (l.take i ++ List.replicate (l.length - i) 0) (i : Int)) l := by
  induction d with
  | zero =>
    intro i hi
    refine Ev.step (fun _ => rfl) ?_
    refine ev_neg (by omega) ?_
    have : i = l.length := by omega
    subst this
    refine ev_eq (Ev.now _) ?_
    simp
  | succ d ih =>
    intro i hi
    refine Ev.step (fun _ => rfl) ?_
    refine ev_pos (by omega) (ev_pos (by omega) (ev_pos (by simp; omega) ?_))
    rw [show ((i : Int)).toNat = i from by simp, toIntS_set l i (by omega), w64n i (by omega)]
    exact ih (i + 1) (by omega)
theorem toIntS_ev (l : List Int) (hl : l.length ≤ 1000000000) : Ev (fun k => laws_toIntS.f k l) l := by
  unfold laws_toIntS.f
  refine ev_pos (by omega) (ev_pos (by simp; omega) ?_)
  have := toIntS_loop l hl l.length 0 (by omega)
  simpa using this

theorem eqIntS_loop (l : List Int) (hl : l.length ≤ 1000000000) (d : Nat) : ∀ i : Nat, i + d = l.length → Ev (fun k => laws_eqIntS.l0 k l l (i : Int)) true := by
  induction d with
  | zero =>
    intro i hi
    refine Ev.step (fun _ => rfl) ?_
    exact ev_neg (by omega) (Ev.now _)
  | succ d ih =>
    intro i hi
    refine Ev.step (fun _ => rfl) ?_
    refine ev_pos (by omega) (ev_pos (by omega) (ev_pos (by omega) (ev_pos rfl ?_)))
    rw [w64n i (by omega)]
    exact ih (i + 1) (by omega)
theorem eqIntS_ev (l : List Int) (hl : l.length ≤ 1000000000) : Ev (fun k => laws_eqIntS.f k l l) true := by
  unfold laws_eqIntS.f
  exact ev_pos rfl (eqIntS_loop l hl l.length 0 (by omega))

theorem l1Total_loop (l : List Int) (hl : l.length ≤ 1000) (B : Int) (hB : 0 ≤ B) (hB2 : B ≤ 1000000000) (hb : ∀ x ∈ l, -B ≤ x ∧ x ≤ B) (d : Nat) : ∀ i : Nat, i + d = l.length → Ev (fun k => spec_l1Total.l0 k l (tot (l.take i)) (i : Int)) (tot l) := by
  induction d with
  | zero =>
    intro i hi
    refine Ev.step (fun _ => rfl) ?_
    refine ev_neg (by omega) (ev_eq (Ev.now _) ?_)
    rw [List.take_of_length_le (by omega)]
  | succ d ih =>
    intro i hi
    refine Ev.step (fun _ => rfl) ?_
    refine ev_pos (by omega) (ev_pos (by omega) ?_)
    have h1 := tot_abs (l.take i) B hB (fun x hx => hb x (List.mem_of_mem_take hx))
    have h2 := hb _ (rd_mem l i (by omega))
    have h3 : ((l.take i).length : Int) * B ≤ 1000 * 1000000000 := (mulb (by omega) (by rw [List.length_take]; omega) hB hB2).2
    have h4 : tot (l.take i) + rd l (i : Int) = tot (l.take (i + 1)) := by rw [take_rd l i (by omega), tot_append]; simp [tot]
    rw [w64n i (by omega), w64 (by omega) (by omega), h4]
    exact ih (i + 1) (by omega)
theorem l1Total_ev (l : List Int) (hl : l.length ≤ 1000) (hb : ∀ x ∈ l, -1000000000 ≤ x ∧ x ≤ 1000000000) : Ev (fun k => spec_l1Total.f k l) (tot l) := by
  unfold spec_l1Total.f
  exact l1Total_loop l hl 1000000000 (by omega) (by omega) hb l.length 0 (by omega)

theorem implSum_loop (l : List Int) (hl : l.length ≤ 1000) (B : Int) (hB : 0 ≤ B) (hB2 : B ≤ 1000000000) (hb : ∀ x ∈ l, -B ≤ x ∧ x ≤ B) (d : Nat) : ∀ i : Nat, i + d = l.length → Ev (fun k => impl_sum.l0 k (tot (l.take i)) l (l.length : Int) (i : Int)) (tot l) := by
  induction d with
  | zero =>
    intro i hi
    refine Ev.step (fun _ => rfl) ?_
    refine ev_neg (by omega) (ev_eq (Ev.now _) ?_)
    rw [List.take_of_length_le (by omega)]
  | succ d ih =>
    intro i hi
    refine Ev.step (fun _ => rfl) ?_
    refine ev_pos (by omega) (ev_pos (by omega) (ev_pos (by omega) ?_))
    have h1 := tot_abs (l.take i) B hB (fun x hx => hb x (List.mem_of_mem_take hx))
    have h2 := hb _ (rd_mem l i (by omega))
    have h3 : ((l.take i).length : Int) * B ≤ 1000 * 1000000000 := (mulb (by omega) (by rw [List.length_take]; omega) hB hB2).2
    have h4 : tot (l.take i) + rd l (i : Int) = tot (l.take (i + 1)) := by rw [take_rd l i (by omega), tot_append]; simp [tot]
    rw [w64n i (by omega), w64 (by omega) (by omega), h4]
    exact ih (i + 1) (by omega)
theorem implSum_ev (l : List Int) (hl : l.length ≤ 1000) (hb : ∀ x ∈ l, -1000000000 ≤ x ∧ x ≤ 1000000000) : Ev (fun k => impl_sum.f k l) (tot l) := by
  unfold impl_sum.f
  exact implSum_loop l hl 1000000000 (by omega) (by omega) hb l.length 0 (by omega)

theorem rdL_eq (xs : List (List Int)) (i : Int) : rd_L1 xs i = rowR xs i := rfl

theorem implRuleOk_inner (c : Int) (rule : List (List Int)) (i : Nat) (rest : Bool) (row : List Int) (hl : row.length ≤ 1000000000) (H : Ev (fun k => impl_RuleOk.l0 k c rule rule (rule.length : Int) ((i + 1 : Nat) : Int)) rest) (hi : i ≤ 1000000000) (d : Nat) : ∀ j : Nat, j + d = row.length →
    Ev (fun k => impl_RuleOk.l1 k c rule (i : Int) rule (rule.length : Int) (i : Int) row (row.length : Int) (j : Int)) (entsB i j (row.drop j) && rest) := by
  induction d with
  | zero =>
    intro j hj
    refine Ev.step (fun _ => rfl) ?_
    refine ev_neg (by omega) ?_
    rw [List.drop_eq_nil_of_le (by omega), w64n i (by omega)]
    exact ev_eq H (by simp [entsB])
  | succ d ih =>
    intro j hj
    refine Ev.step (fun _ => rfl) ?_
    refine ev_pos (by omega) (ev_pos (by omega) (ev_pos (by omega) ?_))
    rw [drop_rd row j (by omega), entsB]
    have no : entB i j (rd row (j : Int)) = false → (entB i j (rd row (j : Int)) && entsB i (j + 1) (row.drop (j + 1)) && rest) = false := fun h => by rw [h]; rfl
    by_cases h1 : rd row (j : Int) > 3
    · refine ev_pos h1 (ev_eq (Ev.now _) ?_)
      rw [no (by simp [entB]; omega)]
    refine ev_neg h1 ?_
    by_cases h2 : rd row (j : Int) < -1
    · refine ev_pos h2 (ev_eq (Ev.now _) ?_)
      rw [no (by simp [entB]; omega)]
    refine ev_neg h2 ?_
    have go : entB i j (rd row (j : Int)) = true → Ev (fun k => impl_RuleOk.l1 k c rule (i : Int) rule (rule.length : Int) (i : Int) row (row.length : Int) (wrap64 ((j : Int) + 1))) (entB i j (rd row (j : Int)) && entsB i (j + 1) (row.drop (j + 1)) && rest) := fun h => by
      rw [h, Bool.true_and, w64n j (by omega)]
      exact ih (j + 1) (by omega)
    by_cases h3 : rd row (j : Int) = -1
    · refine ev_pos h3 ?_
      by_cases h4 : (i : Int) = (j : Int)
      · exact ev_pos h4 (go (by simp [entB]; omega))
      · refine ev_neg h4 (ev_eq (Ev.now _) ?_)
        rw [no (by simp [entB, h3, h4])]
    · exact ev_neg h3 (go (by simp [entB]; omega))
theorem implRuleOk_loop (c : Int) (rule : List (List Int)) (hl : rule.length ≤ 100000000) (hr : ∀ r ∈ rule, r.length ≤ 1000000000) (d : Nat) : ∀ i : Nat, i + d = rule.length →
    Ev (fun k => impl_RuleOk.l0 k c rule rule (rule.length : Int) (i : Int)) (rowsB c i (rule.drop i) && (colB c && decide ((rule.length : Int) = c))) := by
  induction d with
  | zero =>
    intro i hi
    refine Ev.step (fun _ => rfl) ?_
    refine ev_neg (by omega) ?_
    rw [coloursOk_f, List.drop_eq_nil_of_le (by omega)]
    cases h : colB c
    · exact Ev.now _
    · exact ev_eq (Ev.now _) (by simp [rowsB]; rfl)
  | succ d ih =>
    intro i hi
    refine Ev.step (fun _ => rfl) ?_
    refine ev_pos (by omega) (ev_pos (by omega) (ev_pos (by omega) ?_))
    rw [rdL_eq, drop_rowR rule i (by omega), rowsB, rowB]
    by_cases h : ((rowR rule (i : Int)).length : Int) = c
    · refine ev_pos h ?_
      have := implRuleOk_inner c rule i _ (rowR rule (i : Int)) (hr _ (rowR_mem rule i (by omega))) (ih (i + 1) (by omega)) (by omega) (rowR rule (i : Int)).length 0 (by omega)
      refine ev_eq this ?_
      simp [h, Bool.and_assoc]
    · refine ev_neg h (ev_eq (Ev.now _) ?_)
      simp [h]
theorem implRuleOk_ev (c : Int) (rule : List (List Int)) (hl : rule.length ≤ 100000000) (hr : ∀ r ∈ rule, r.length ≤ 1000000000) : Ev (fun k => impl_RuleOk.f k c rule) (ruleB c rule) := by
  unfold impl_RuleOk.f
  exact implRuleOk_loop c rule hl hr rule.length 0 (by omega)

theorem specRuleOk_inner (c : Int) (rule : List (List Int)) (i : Nat) (rest : Bool) (hi : i < rule.length) (hl : rule.length ≤ 100000000) (hl2 : (rowR rule i).length ≤ 1000000000) (hc : ((rowR rule i).length : Int) = c) (H : Ev (fun k => spec_RuleOk.l0 k c rule ((i + 1 : Nat) : Int)) rest) (d : Nat) : ∀ j : Nat, j + d = (rowR rule i).length →
    Ev (fun k => spec_RuleOk.l1 k c rule (i : Int) (j : Int)) (entsB i j ((rowR rule i).drop j) && rest) := by
  induction d with
  | zero =>
    intro j hj
    refine Ev.step (fun _ => rfl) ?_
    refine ev_neg (by omega) ?_
    rw [List.drop_eq_nil_of_le (by omega), w64n i (by omega)]
    exact ev_eq H (by simp [entsB])
  | succ d ih =>
    intro j hj
    refine Ev.step (fun _ => rfl) ?_
    refine ev_pos (by omega) (ev_pos (by omega) (ev_pos (by omega) (ev_pos (by omega) ?_)))
    refine ev_pos (show (j : Int) < ((rowR rule i).length : Int) by omega) ?_
    rw [drop_rd _ j (by omega), entsB, rdL_eq, l1In_f, w64n j (by omega)]
    have no : entB i j (rd (rowR rule i) (j : Int)) = false → (entB i j (rd (rowR rule i) (j : Int)) && entsB i (j + 1) ((rowR rule i).drop (j + 1)) && rest) = false := fun h => by rw [h]; rfl
    have go : entB i j (rd (rowR rule i) (j : Int)) = true → Ev (fun k => spec_RuleOk.l1 k c rule (i : Int) ((j + 1 : Nat) : Int)) (entB i j (rd (rowR rule i) (j : Int)) && entsB i (j + 1) ((rowR rule i).drop (j + 1)) && rest) := fun h => by
      rw [h, Bool.true_and]
      exact ih (j + 1) (by omega)
    refine Ev.bind (Ev.now _) ?_
    by_cases h1 : 0 ≤ rd (rowR rule i) (j : Int) ∧ rd (rowR rule i) (j : Int) ≤ 3
    · exact ev_pos (by simp [inB]; omega) (go (by simp [entB]; omega))
    refine ev_neg (by simp [inB]; omega) ?_
    by_cases h3 : rd (rowR rule i) (j : Int) = -1
    · refine ev_pos h3 ?_
      by_cases h4 : (j : Int) = (i : Int)
      · exact ev_pos h4 (go (by simp [entB]; omega))
      · refine ev_neg h4 (ev_eq (Ev.now _) ?_)
        rw [no (by simp [entB, h3]; omega)]
    · refine ev_neg h3 (ev_eq (Ev.now _) ?_)
      rw [no (by simp [entB]; omega)]
theorem specRuleOk_loop (c : Int) (rule : List (List Int)) (hl : rule.length ≤ 100000000) (hr : ∀ r ∈ rule, r.length ≤ 1000000000) (d : Nat) : ∀ i : Nat, i + d = rule.length →
    Ev (fun k => spec_RuleOk.l0 k c rule (i : Int)) (rowsB c i (rule.drop i) && (colB c && decide ((rule.length : Int) = c))) := by
  induction d with
  | zero =>
    intro i hi
    refine Ev.step (fun _ => rfl) ?_
    refine ev_neg (by omega) ?_
    rw [l1In_f, show inB c 1 3 = colB c from rfl, List.drop_eq_nil_of_le (by omega)]
    cases h : colB c
    · exact Ev.now _
    · exact ev_eq (Ev.now _) (by simp [rowsB]; rfl)
  | succ d ih =>
    intro i hi
    refine Ev.step (fun _ => rfl) ?_
    refine ev_pos (by omega) (ev_pos (by omega) ?_)
    rw [rdL_eq, drop_rowR rule i (by omega), rowsB, rowB]
    by_cases h : ((rowR rule (i : Int)).length : Int) = c
    · refine ev_pos h ?_
      have := specRuleOk_inner c rule i _ (by omega) hl (hr _ (rowR_mem rule i (by omega))) h (ih (i + 1) (by omega)) (rowR rule (i : Int)).length 0 (by omega)
      refine ev_eq this ?_
      simp [h, Bool.and_assoc]
    · refine ev_neg h (ev_eq (Ev.now _) ?_)
      simp [h]
theorem specRuleOk_ev (c : Int) (rule : List (List Int)) (hl : rule.length ≤ 100000000) (hr : ∀ r ∈ rule, r.length ≤ 1000000000) : Ev (fun k => spec_RuleOk.f k c rule) (ruleB c rule) := by
  unfold spec_RuleOk.f
  exact specRuleOk_loop c rule hl hr rule.length 0 (by omega)

theorem implEvenRule_loop (c : Nat) (r : List (List Int)) (hr : RuleK c r) (d : Nat) : ∀ i : Nat, i + d = r.length → Ev (fun k => impl_EvenRule.l0 k r r (r.length : Int) (i : Int)) (if ∀ x ∈ r.drop i, tot x = tot (rowR r 0) then (tot (rowR r 0), true) else (0, false)) := by
  have hlen := hr.len; have hc1 := hr.c1; have hc3 := hr.c3
  have hrow : ∀ x ∈ r, Ev (fun k => impl_sum.f k x) (tot x) := fun x hx => by
    have := row_bounds hr x hx
    exact implSum_ev x (by omega) (fun y hy => by have := this.2 y hy; omega)
  have h0 : rowR r 0 ∈ r := rowR_range r 0 (by omega) (by omega)
  induction d with
  | zero =>
    intro i hi
    refine Ev.step (fun _ => rfl) ?_
    refine ev_neg (by omega) (ev_pos (by omega) ?_)
    rw [List.drop_eq_nil_of_le (by omega), if_pos (by simp)]
    exact Ev.bind (hrow _ h0) (Ev.now _)
  | succ d ih =>
    intro i hi
    refine Ev.step (fun _ => rfl) ?_
    refine ev_pos (by omega) (ev_pos (by omega) (ev_pos (by omega) ?_))
    refine Ev.bind (hrow _ (rowR_mem r i (by omega))) (ev_pos (by omega) (Ev.bind (hrow _ h0) ?_))
    rw [drop_rowR r i (by omega)]
    by_cases h : tot (rowR r (i : Int)) = tot (rowR r 0)
    · refine ev_pos h ?_
      rw [w64n i (by omega)]
      refine ev_eq (ih (i + 1) (by omega)) ?_
      simp [h]
    · refine ev_neg h (ev_eq (Ev.now _) ?_)
      rw [if_neg (fun hh => h (hh _ List.mem_cons_self))]
theorem implEvenRule_ev (c : Int) (r : List (List Int)) (hl : r.length ≤ 100000000) (hr : ∀ x ∈ r, x.length ≤ 1000000000) : Ev (fun k => impl_EvenRule.f k c r) (evenP c r) := by
  unfold impl_EvenRule.f evenP
  refine Ev.bind (implRuleOk_ev c r hl hr) ?_
  cases h : ruleB c r with
  | false => rw [if_neg (fun hh => by cases hh.1)]; exact ev_neg (by simp) (Ev.now _)
  | true =>
    have hk := (ruleB_known h).1
    refine ev_pos rfl ?_
    refine ev_eq (implEvenRule_loop _ r hk r.length 0 (by omega)) ?_
    simp

theorem specEvenRule_loop (c : Nat) (r : List (List Int)) (hr : RuleK c r) (d : Nat) : ∀ i : Nat, i + d = r.length → Ev (fun k => spec_EvenRule.l0 k (c : Int) r (i : Int)) (if ∀ x ∈ r.drop i, tot x = tot (rowR r 0) then (tot (rowR r 0), true) else (0, false)) := by
  have hlen := hr.len; have hc1 := hr.c1; have hc3 := hr.c3
  have hrow : ∀ x ∈ r, Ev (fun k => spec_l1Total.f k x) (tot x) := fun x hx => by
    have := row_bounds hr x hx
    exact l1Total_ev x (by omega) (fun y hy => by have := this.2 y hy; omega)
  have h0 : rowR r 0 ∈ r := rowR_range r 0 (by omega) (by omega)
  induction d with
  | zero =>
    intro i hi
    refine Ev.step (fun _ => rfl) ?_
    refine ev_neg (by omega) (ev_pos (by omega) ?_)
    rw [List.drop_eq_nil_of_le (by omega), if_pos (by simp)]
    exact Ev.bind (hrow _ h0) (Ev.now _)
  | succ d ih =>
    intro i hi
    refine Ev.step (fun _ => rfl) ?_
    refine ev_pos (by omega) (ev_pos (by omega) (ev_pos (by omega) ?_))
    refine Ev.bind (hrow _ (rowR_mem r i (by omega))) (ev_pos (by omega) (Ev.bind (hrow _ h0) ?_))
    rw [drop_rowR r i (by omega)]
    by_cases h : tot (rowR r (i : Int)) = tot (rowR r 0)
    · refine ev_pos h ?_
      rw [w64n i (by omega)]
      refine ev_eq (ih (i + 1) (by omega)) ?_
      simp [h]
    · refine ev_neg h (ev_eq (Ev.now _) ?_)
      rw [if_neg (fun hh => h (hh _ List.mem_cons_self))]
theorem specEvenRule_ev (c : Int) (r : List (List Int)) (hl : r.length ≤ 100000000) (hr : ∀ x ∈ r, x.length ≤ 1000000000) : Ev (fun k => spec_EvenRule.f k c r) (evenP c r) := by
  unfold spec_EvenRule.f evenP
  refine Ev.bind (specRuleOk_ev c r hl hr) ?_
  cases h : ruleB c r with
  | false => rw [if_neg (fun hh => by cases hh.1)]; exact ev_neg (by simp) (Ev.now _)
  | true =>
    obtain ⟨hk, hc1, hc3⟩ := ruleB_known h
    obtain ⟨m, rfl⟩ := Int.eq_ofNat_of_zero_le (show 0 ≤ c by omega)
    refine ev_pos rfl ?_
    refine ev_eq (specEvenRule_loop _ r hk r.length 0 (by omega)) ?_
    simp

theorem szIntS_f (l : List Int) (n : Int) (hl : l.length ≤ 9223372036854775807) (h0 : 0 ≤ n) (h1 : n ≤ 1048576) : ∃ v, laws_szIntS.f l n = some v ∧ v ≤ 1048576 ∧ (0 ≤ v → l.length ≤ 1048576) := by
  unfold laws_szIntS.f
  rw [w64 (by omega) (by omega)]
  by_cases h : n - (l.length : Int) < 0
  · exact ⟨-1, if_pos h, by omega, by omega⟩
  · exact ⟨n - l.length, if_neg h, by omega, by omega⟩
theorem szIntSS_loop (r : List (List Int)) (hl : r.length ≤ 1048576) (hr : ∀ x ∈ r, x.length ≤ 9223372036854775807) (d : Nat) : ∀ (i : Nat) (n : Int), 0 ≤ n → n ≤ 1048576 → i + d = r.length → (∀ x ∈ r.take i, x.length ≤ 1048576) →
    ∃ v, Ev (fun k => laws_szIntSS.l0 k r n (i : Int)) v ∧ (0 ≤ v → ∀ x ∈ r, x.length ≤ 1048576) := by
  induction d with
  | zero =>
    intro i n hn0 hn hi hx
    refine ⟨n, Ev.step (fun _ => rfl) (ev_neg (by omega) (Ev.now _)), fun _ => ?_⟩
    rwa [List.take_of_length_le (by omega)] at hx
  | succ d ih =>
    intro i n hn0 hn hi hx
    obtain ⟨v, hv, h1, h2⟩ := szIntS_f (rowR r (i : Int)) n (hr _ (rowR_mem r i (by omega))) hn0 hn
    by_cases h3 : v < 0
    · refine ⟨-1, Ev.step (fun _ => rfl) (ev_pos (by omega) (ev_pos (by omega) ?_)), fun h => by omega⟩
      rw [rdL_eq, hv]
      exact Ev.bind (Ev.now _) (ev_pos h3 (Ev.now _))
    · obtain ⟨z, hz, hQ⟩ := ih (i + 1) v (by omega) h1 (by omega) (fun x hx' => by
        rw [take_rowR r i (by omega)] at hx'
        rcases List.mem_append.1 hx' with hx' | hx'
        · exact hx x hx'
        · have e : x = rowR r (i : Int) := by simpa using hx'
          rw [e]; exact h2 (by omega))
      refine ⟨z, Ev.step (fun _ => rfl) (ev_pos (by omega) (ev_pos (by omega) ?_)), hQ⟩
      rw [rdL_eq, hv, w64n i (by omega)]
      exact Ev.bind (Ev.now _) (ev_neg h3 hz)
theorem szIntSS_ev (r : List (List Int)) (hl : r.length ≤ 9223372036854775807) (hr : ∀ x ∈ r, x.length ≤ 9223372036854775807) :
    ∃ v, Ev (fun k => laws_szIntSS.f k r 1048576) v ∧ (0 ≤ v → r.length ≤ 1048576 ∧ ∀ x ∈ r, x.length ≤ 1048576) := by
  unfold laws_szIntSS.f
  rw [w64 (by omega) (by omega)]
  by_cases h : (1048576 : Int) - (r.length : Int) < 0
  · exact ⟨-1, ev_pos h (Ev.now _), fun h => by omega⟩
  · obtain ⟨v, hv, hQ⟩ := szIntSS_loop r (by omega) hr r.length 0 (1048576 - r.length) (by omega) (by omega) (by omega) (by simp)
    exact ⟨v, ev_neg h hv, fun h => ⟨by omega, hQ h⟩⟩

theorem toIntSS_set (l : List (List Int)) (i : Nat) (h : i < l.length) : (l.take i ++ List.replicate (l.length - i) []).set i (rowR l (i : Int)) = l.take (i + 1) ++ List.replicate (l.length - (i + 1)) [] := by
  rw [take_rowR l i h, List.set_append_right _ _ (by rw [List.length_take]; omega)]
  have e : l.length - i = (l.length - (i + 1)) + 1 := by omega
  rw [e, List.replicate_succ, List.length_take, Nat.min_eq_left (by omega), Nat.sub_self, List.set_cons_zero, List.append_assoc]
  rfl
theorem toIntSS_loop (l : List (List Int)) (hl : l.length ≤ 100000000) (hr : ∀ x ∈ l, x.length ≤ 1000000000) (d : Nat) : ∀ i : Nat, i + d = l.length → Ev (fun k => laws_toIntSS.l0 k l (l.take i ++ List.replicate (l.length - i) []) (i : Int)) l := by
  induction d with
  | zero =>
    intro i hi
    refine Ev.step (fun _ => rfl) ?_
    refine ev_neg (by omega) ?_
    have : i = l.length := by omega
    subst this
    refine ev_eq (Ev.now _) ?_
    simp
  | succ d ih =>
    intro i hi
    refine Ev.step (fun _ => rfl) ?_
    refine ev_pos (by omega) (ev_pos (by omega) (Ev.bind (toIntS_ev _ (hr _ (rowR_mem l i (by omega)))) (ev_pos (by simp; omega) ?_)))
    rw [show ((i : Int)).toNat = i from by simp, rdL_eq, toIntSS_set l i (by omega), w64n i (by omega)]
    exact ih (i + 1) (by omega)
theorem toIntSS_ev (l : List (List Int)) (hl : l.length ≤ 100000000) (hr : ∀ x ∈ l, x.length ≤ 1000000000) : Ev (fun k => laws_toIntSS.f k l) l := by
  unfold laws_toIntSS.f
  refine ev_pos (by omega) (ev_pos (by simp; omega) ?_)
  have := toIntSS_loop l hl hr l.length 0 (by omega)
  simpa using this

theorem eqIntSS_loop (r : List (List Int)) (hl : r.length ≤ 100000000) (hr : ∀ x ∈ r, x.length ≤ 1000000000) (d : Nat) : ∀ i : Nat, i + d = r.length → Ev (fun k => laws_eqIntSS.l0 k r r (i : Int)) true := by
  induction d with
  | zero =>
    intro i hi
    refine Ev.step (fun _ => rfl) ?_
    exact ev_neg (by omega) (Ev.now _)
  | succ d ih =>
    intro i hi
    refine Ev.step (fun _ => rfl) ?_
    refine ev_pos (by omega) (ev_pos (by omega) (ev_pos (by omega) (Ev.bind (eqIntS_ev _ (hr _ (rowR_mem r i (by omega)))) (ev_pos rfl ?_))))
    rw [w64n i (by omega)]
    exact ih (i + 1) (by omega)
theorem eqIntSS_ev (r : List (List Int)) (hl : r.length ≤ 100000000) (hr : ∀ x ∈ r, x.length ≤ 1000000000) : Ev (fun k => laws_eqIntSS.f k r r) true := by
  unfold laws_eqIntSS.f
  exact ev_pos rfl (eqIntSS_loop r hl hr r.length 0 (by omega))

theorem FnExactEvenRule (c : Int) (r : List (List Int)) (hl : r.length ≤ maxLen) (hr : ∀ x ∈ r, x.length ≤ maxLen) : ∃ k, laws_FnExactEvenRule.f k c r = some true := by
  refine Ev.rounds (g := fun k => laws_FnExactEvenRule.f k c r) ?_
  unfold maxLen at hl hr
  unfold laws_FnExactEvenRule.f
  obtain ⟨v, hv, hq⟩ := szIntSS_ev r (by omega) (fun x hx => by have := hr x hx; omega)
  refine Ev.bind hv ?_
  by_cases h : v < 0
  · exact ev_pos h (Ev.now _)
  refine ev_neg h ?_
  obtain ⟨h1, h2⟩ := hq (by omega)
  have hr' : ∀ x ∈ r, x.length ≤ 1000000000 := fun x hx => by have := h2 x hx; omega
  have ht := toIntSS_ev r (by omega) hr'
  refine Ev.bind ht (Ev.bind (specEvenRule_ev c r (by omega) hr') (Ev.bind ht (Ev.bind (implEvenRule_ev c r (by omega) hr') (ev_pos rfl ?_))))
  refine Ev.step (fun _ => by rw [laws_FnExactEvenRule.j0]) ?_
  refine ev_neg (by simp) ?_
  exact Ev.bind ht (Ev.bind (eqIntSS_ev r (by omega) hr') (Ev.now _))

end Go.Proofs.Yteeodaggfaebdaa.Pure
