/- The law FnSameRule: for every input the printed function of the law answers true. No condition. -/
import Derived.Test.YteeodaggfaebdaaPFnSameRulex3
import Derived.Test.YteeodaggfaebdaaPlain
set_option linter.unusedVariables false
set_option linter.unusedSimpArgs false
namespace Go.Proofs.Yteeodaggfaebdaa.Pure
open Go.RowKit Go.Proofs.Yteeodaggfaebdaa.PFnSameRule Go.Proofs.YteeodaggfaebdaaW.PrintWords Go.Proofs.YteeodaggfaebdaaW.PrintLast Go.Proofs.YteeodaggfaebdaaW.PrintMore Go.Proofs.Yteeodaggfaebdaa.Plain

theorem l1In_f (x a b : Int) : spec_l1In.f x a b = some (inB x a b) := by
  unfold spec_l1In.f inB
  by_cases h : x ≥ a
  · rw [if_pos h]; congr 1; simp [h]
  · rw [if_neg h]; congr 1; simp; omega

theorem coloursOk_f (x : Int) : impl_coloursOk.f x = some (colB x) := by
  unfold impl_coloursOk.f colB
  by_cases h : x ≥ 1
  · rw [if_pos h]; congr 1; simp [h]
  · rw [if_neg h]; congr 1; simp; omega

theorem implUrnOk_loop (l : List Int) (hl : l.length ≤ 1000000000) (d : Nat) : ∀ i : Nat, i + d = l.length → Ev (fun k => impl_UrnOk.l0 k l l (l.length : Int) (i : Int)) ((l.drop i).all urnE && colB l.length) := by
  induction d with
  | zero =>
    intro i hi
    refine Ev.step (fun _ => rfl) ?_
    refine ev_neg (by omega) ?_
    rw [coloursOk_f, List.drop_eq_nil_of_le (by omega)]
    exact Ev.now _
  | succ d ih =>
    intro i hi
    refine Ev.step (fun _ => rfl) ?_
    refine ev_pos (by omega) (ev_pos (by omega) (ev_pos (by omega) ?_))
    rw [drop_rd l i (by omega), List.all_cons]
    by_cases h1 : rd l (i : Int) < 0
    · refine ev_pos h1 (ev_eq (Ev.now _) ?_)
      rw [show urnE (rd l (i : Int)) = false from by simp [urnE]; omega]; rfl
    · refine ev_neg h1 ?_
      by_cases h2 : rd l (i : Int) > 40
      · refine ev_pos h2 (ev_eq (Ev.now _) ?_)
        rw [show urnE (rd l (i : Int)) = false from by simp [urnE]; omega]; rfl
      · refine ev_neg h2 ?_
        rw [w64n i (by omega), show urnE (rd l (i : Int)) = true from by simp [urnE]; omega, Bool.true_and]
        exact ih (i + 1) (by omega)
theorem implUrnOk_ev (l : List Int) (hl : l.length ≤ 1000000000) : Ev (fun k => impl_UrnOk.f k l) (urnB l) := by
  unfold impl_UrnOk.f
  exact implUrnOk_loop l hl l.length 0 (by omega)

theorem implSum_loop (l : List Int) (hl : l.length ≤ 1000) (B : Int) (hB : 0 ≤ B) (hB2 : B ≤ 1000000000) (hb : ∀ x ∈ l, -B ≤ x ∧ x ≤ B) (d : Nat) : ∀ i : Nat, i + d = l.length → Ev (fun k => impl_sum.l0 k (tot (l.take i)) l (l.length : Int) (i : Int)) (tot l) := by
  induction d with
  | zero =>
    intro i hi
    refine Ev.step (fun _ => rfl) ?_
    refine ev_neg (by omega) (ev_eq (Ev.now _) ?_)
    rw [List.take_of_length_le (by omega)]
  | succ d ih =>
    intro i hi
    refine Ev.step (fun _ => rfl) ?_
    refine ev_pos (by omega) (ev_pos (by omega) (ev_pos (by omega) ?_))
    have h1 := tot_abs (l.take i) B hB (fun x hx => hb x (List.mem_of_mem_take hx))
    have h2 := hb _ (rd_mem l i (by omega))
    have h3 : ((l.take i).length : Int) * B ≤ 1000 * 1000000000 := (mulb (by omega) (by rw [List.length_take]; omega) hB hB2).2
    have h4 : tot (l.take i) + rd l (i : Int) = tot (l.take (i + 1)) := by rw [take_rd l i (by omega), tot_append]; simp [tot]
    rw [w64n i (by omega), w64 (by omega) (by omega), h4]
    exact ih (i + 1) (by omega)
theorem implSum_ev (l : List Int) (hl : l.length ≤ 1000) (hb : ∀ x ∈ l, -1000000000 ≤ x ∧ x ≤ 1000000000) : Ev (fun k => impl_sum.f k l) (tot l) := by
  unfold impl_sum.f
  exact implSum_loop l hl 1000000000 (by omega) (by omega) hb l.length 0 (by omega)

theorem l20Open_f (l : List Int) (hb : ∀ x ∈ l, (Lit.int .u8 x).wf = true) : ∃ b, spec_l20Open.f l = some (b, 0) ∧ OkB b := by
  unfold spec_l20Open.f
  by_cases h : (l.length : Int) > 2000
  · rw [if_pos h, if_pos (by omega)]
    exact ⟨_, rfl, fun x hx => u8_wf (hb x (List.mem_of_mem_take hx)), by rw [List.length_take]; omega⟩
  · rw [if_neg h]
    exact ⟨_, rfl, fun x hx => u8_wf (hb x hx), by omega⟩

theorem pick_ev {b : List Int} (hb : OkB b) {p : Int} (hp0 : 0 ≤ p) (hp : p ≤ 1000000) (n : Int) (hn0 : 1 ≤ n) (hn : n ≤ 1000000) : ∃ v, Ev (fun k => spec_l20Rd_pick.f k b p n) (v, p + 1) ∧ 0 ≤ v ∧ v < n := by
  obtain ⟨hb1, hb2⟩ := hb
  unfold spec_l20Rd_pick.f
  have e1 : wrap64 (p + 1) = p + 1 := w64 (by omega) (by omega)
  by_cases h0 : b.length = 0
  · refine ⟨0, ev_neg (by omega) ?_, by omega, by omega⟩
    rw [show ((b.length : Int) == 0) = true from by simp [h0], e1]
    exact Ev.step (fun _ => rfl) (Ev.now _)
  · have hz : ((b.length : Int) == 0) = false := by simp; intro hh; exact h0 (by simp [hh])
    have hat : ∀ i : Int, 0 ≤ i → i < b.length → 0 ≤ rd b i ∧ rd b i ≤ 255 := fun i h1 h2 => hb1 _ (rd_range b i h1 h2)
    have e2 : wrap64 (p + 1 - 1) = p := by rw [show p + 1 - 1 = p by omega]; exact w64 (by omega) (by omega)
    by_cases h1 : p < (b.length : Int)
    · have hr := hat p hp0 h1
      have ht := tmod_range (rd b p) n hr.1 (by omega)
      refine ⟨Int.tmod (rd b p) n, ev_neg (by omega) ?_, ht.1, ht.2⟩
      rw [hz, e1]
      refine Ev.step (fun _ => by rw [spec_l20Rd_pick.j0]) (ev_neg (by simp) ?_)
      rw [e2, w64 (x := rd b p) (by omega) (by omega)]
      exact ev_pos h1 (ev_pos hp0 (ev_neg (by omega) (Ev.now _)))
    · have m1 := tmod_range p (b.length : Int) hp0 (by omega)
      have e3 : wrap64 (p * 7) = p * 7 := w64 (by omega) (by omega)
      have e4 : wrap64 (p * 7 + 3) = p * 7 + 3 := w64 (by omega) (by omega)
      have m2 := tmod_range (p * 7 + 3) (b.length : Int) (by omega) (by omega)
      have r1 := hat _ m1.1 m1.2
      have r2 := hat _ m2.1 m2.2
      have d1 := tdiv_range p (b.length : Int) hp0 (by omega)
      have key : ∀ x y z : Int, 0 ≤ x → x ≤ 255 → 0 ≤ y → y ≤ 255 → 0 ≤ z → z ≤ 1000000 →
          wrap64 (wrap64 (wrap64 (wrap64 (wrap64 x * 131) + wrap64 (wrap64 y * 1117)) + wrap64 (p * 29)) + wrap64 (wrap64 z * 53)) = x * 131 + y * 1117 + p * 29 + z * 53 := by
        intro x y z _ _ _ _ _ _
        rw [w64 (x := x) (by omega) (by omega), w64 (x := y) (by omega) (by omega), w64 (x := z) (by omega) (by omega), w64 (x := x * 131) (by omega) (by omega), w64 (x := y * 1117) (by omega) (by omega), w64 (x := p * 29) (by omega) (by omega), w64 (x := z * 53) (by omega) (by omega),
          w64 (x := x * 131 + y * 1117) (by omega) (by omega), w64 (x := x * 131 + y * 1117 + p * 29) (by omega) (by omega), w64 (by omega) (by omega)]
      obtain ⟨X, hX, hX0, hX1⟩ : ∃ X, wrap64 (wrap64 (wrap64 (wrap64 (wrap64 (rd b (Int.tmod p b.length)) * 131) + wrap64 (wrap64 (rd b (Int.tmod (p * 7 + 3) b.length)) * 1117)) + wrap64 (p * 29)) + wrap64 (wrap64 (Int.tdiv p b.length) * 53)) = X ∧ 0 ≤ X ∧ X ≤ 100000000 :=
        ⟨_, key _ _ _ r1.1 r1.2 r2.1 r2.2 d1.1 (by omega), by omega, by omega⟩
      have d2 := tdiv_range X 64 hX0 (by omega)
      have hx := xor_nonneg X (Int.tdiv X 64) hX0 (by omega) d2.1 (by omega)
      have ht := tmod_range _ n hx (by omega)
      refine ⟨Int.tmod (Go.bits .xor .i64 X (Int.tdiv X 64)) n, ev_neg (by omega) ?_, ht.1, ht.2⟩
      rw [hz, e1]
      refine Ev.step (fun _ => by rw [spec_l20Rd_pick.j0]) (ev_neg (by simp) ?_)
      rw [e2, e3, e4, hX, w64 (x := Int.tdiv X 64) (by omega) (by omega)]
      exact ev_neg h1 (ev_neg (by omega) (ev_pos m1.1 (ev_pos m1.2 (ev_pos m2.1 (ev_pos m2.2 (ev_neg (by omega) (Ev.now _)))))))

theorem alive_ev : Ev (fun k => laws_alive.f k) true := by
  unfold laws_alive.f
  exact Ev.bind (implUrnOk_ev [1] (by simp)) (ev_pos (by decide) (Ev.bind (implUrnOk_ev [] (by simp)) (Ev.now _)))

theorem rdL_eq (xs : List (List Int)) (i : Int) : rd_L1 xs i = rowR xs i := rfl

theorem implRuleOk_inner (c : Int) (rule : List (List Int)) (i : Nat) (rest : Bool) (row : List Int) (hl : row.length ≤ 1000000000) (H : Ev (fun k => impl_RuleOk.l0 k c rule rule (rule.length : Int) ((i + 1 : Nat) : Int)) rest) (hi : i ≤ 1000000000) (d : Nat) : ∀ j : Nat, j + d = row.length →
    Ev (fun k => impl_RuleOk.l1 k c rule (i : Int) rule (rule.length : Int) (i : Int) row (row.length : Int) (j : Int)) (entsB i j (row.drop j) && rest) := by
  induction d with
  | zero =>
    intro j hj
    refine Ev.step (fun _ => rfl) ?_
    refine ev_neg (by omega) ?_
    rw [List.drop_eq_nil_of_le (by omega), w64n i (by omega)]
    exact ev_eq H (by simp [entsB])
  | succ d ih =>
    intro j hj
    refine Ev.step (fun _ => rfl) ?_
    refine ev_pos (by omega) (ev_pos (by omega) (ev_pos (by omega) ?_))
    rw [drop_rd row j (by omega), entsB]
    have no : entB i j (rd row (j : Int)) = false → (entB i j (rd row (j : Int)) && entsB i (j + 1) (row.drop (j + 1)) && rest) = false := fun h => by rw [h]; rfl
    by_cases h1 : rd row (j : Int) > 3
    · refine ev_pos h1 (ev_eq (Ev.now _) ?_)
      rw [no (by simp [entB]; omega)]
    refine ev_neg h1 ?_
    by_cases h2 : rd row (j : Int) < -1
    · refine ev_pos h2 (ev_eq (Ev.now _) ?_)
      rw [no (by simp [entB]; omega)]
    refine ev_neg h2 ?_
    have go : entB i j (rd row (j : Int)) = true → Ev (fun k => impl_RuleOk.l1 k c rule (i : Int) rule (rule.length : Int) (i : Int) row (row.length : Int) (wrap64 ((j : Int) + 1))) (entB i j (rd row (j : Int)) && entsB i (j + 1) (row.drop (j + 1)) && rest) := fun h => by
      rw [h, Bool.true_and, w64n j (by omega)]
      exact ih (j + 1) (by omega)
    by_cases h3 : rd row (j : Int) = -1
    · refine ev_pos h3 ?_
      by_cases h4 : (i : Int) = (j : Int)
      · exact ev_pos h4 (go (by simp [entB]; omega))
      · refine ev_neg h4 (ev_eq (Ev.now _) ?_)
        rw [no (by simp [entB, h3, h4])]
    · exact ev_neg h3 (go (by simp [entB]; omega))
theorem implRuleOk_loop (c : Int) (rule : List (List Int)) (hl : rule.length ≤ 100000000) (hr : ∀ r ∈ rule, r.length ≤ 1000000000) (d : Nat) : ∀ i : Nat, i + d = rule.length →
    Ev (fun k => impl_RuleOk.l0 k c rule rule (rule.length : Int) (i : Int)) (rowsB c i (rule.drop i) && (colB c && decide ((rule.length : Int) = c))) := by
  induction d with
  | zero =>
    intro i hi
    refine Ev.step (fun _ => rfl) ?_
    refine ev_neg (by omega) ?_
    rw [coloursOk_f, List.drop_eq_nil_of_le (by omega)]
    cases h : colB c
    · exact Ev.now _
    · exact ev_eq (Ev.now _) (by simp [rowsB]; rfl)
  | succ d ih =>
    intro i hi
    refine Ev.step (fun _ => rfl) ?_
    refine ev_pos (by omega) (ev_pos (by omega) (ev_pos (by omega) ?_))
    rw [rdL_eq, drop_rowR rule i (by omega), rowsB, rowB]
    by_cases h : ((rowR rule (i : Int)).length : Int) = c
    · refine ev_pos h ?_
      have := implRuleOk_inner c rule i _ (rowR rule (i : Int)) (hr _ (rowR_mem rule i (by omega))) (ih (i + 1) (by omega)) (by omega) (rowR rule (i : Int)).length 0 (by omega)
      refine ev_eq this ?_
      simp [h, Bool.and_assoc]
    · refine ev_neg h (ev_eq (Ev.now _) ?_)
      simp [h]
theorem implRuleOk_ev (c : Int) (rule : List (List Int)) (hl : rule.length ≤ 100000000) (hr : ∀ r ∈ rule, r.length ≤ 1000000000) : Ev (fun k => impl_RuleOk.f k c rule) (ruleB c rule) := by
  unfold impl_RuleOk.f
  exact implRuleOk_loop c rule hl hr rule.length 0 (by omega)

theorem implEvenRule_loop (c : Nat) (r : List (List Int)) (hr : RuleK c r) (d : Nat) : ∀ i : Nat, i + d = r.length → Ev (fun k => impl_EvenRule.l0 k r r (r.length : Int) (i : Int)) (if ∀ x ∈ r.drop i, tot x = tot (rowR r 0) then (tot (rowR r 0), true) else (0, false)) := by
  have hlen := hr.len; have hc1 := hr.c1; have hc3 := hr.c3
  have hrow : ∀ x ∈ r, Ev (fun k => impl_sum.f k x) (tot x) := fun x hx => by
    have := row_bounds hr x hx
    exact implSum_ev x (by omega) (fun y hy => by have := this.2 y hy; omega)
  have h0 : rowR r 0 ∈ r := rowR_range r 0 (by omega) (by omega)
  induction d with
  | zero =>
    intro i hi
    refine Ev.step (fun _ => rfl) ?_
    refine ev_neg (by omega) (ev_pos (by omega) ?_)
    rw [List.drop_eq_nil_of_le (by omega), if_pos (by simp)]
    exact Ev.bind (hrow _ h0) (Ev.now _)
  | succ d ih =>
    intro i hi
    refine Ev.step (fun _ => rfl) ?_
    refine ev_pos (by omega) (ev_pos (by omega) (ev_pos (by omega) ?_))
    refine Ev.bind (hrow _ (rowR_mem r i (by omega))) (ev_pos (by omega) (Ev.bind (hrow _ h0) ?_))
    rw [drop_rowR r i (by omega)]
    by_cases h : tot (rowR r (i : Int)) = tot (rowR r 0)
    · refine ev_pos h ?_
      rw [w64n i (by omega)]
      refine ev_eq (ih (i + 1) (by omega)) ?_
      simp [h]
    · refine ev_neg h (ev_eq (Ev.now _) ?_)
      rw [if_neg (fun hh => h (hh _ List.mem_cons_self))]
theorem implEvenRule_ev (c : Int) (r : List (List Int)) (hl : r.length ≤ 100000000) (hr : ∀ x ∈ r, x.length ≤ 1000000000) : Ev (fun k => impl_EvenRule.f k c r) (evenP c r) := by
  unfold impl_EvenRule.f evenP
  refine Ev.bind (implRuleOk_ev c r hl hr) ?_
  cases h : ruleB c r with
  | false => rw [if_neg (fun hh => by cases hh.1)]; exact ev_neg (by simp) (Ev.now _)
  | true =>
    have hk := (ruleB_known h).1
    refine ev_pos rfl ?_
    refine ev_eq (implEvenRule_loop _ r hk r.length 0 (by omega)) ?_
    simp

theorem sameInts_loop (l : List Int) (hl : l.length ≤ 1000000000) (d : Nat) : ∀ i : Nat, i + d = l.length → Ev (fun k => laws_sameInts.l0 k l l (i : Int)) true := by
  induction d with
  | zero =>
    intro i hi
    refine Ev.step (fun _ => rfl) ?_
    exact ev_neg (by omega) (Ev.now _)
  | succ d ih =>
    intro i hi
    refine Ev.step (fun _ => rfl) ?_
    refine ev_pos (by omega) (ev_pos (by omega) (ev_pos (by omega) (ev_pos rfl ?_)))
    rw [w64n i (by omega)]
    exact ih (i + 1) (by omega)
theorem sameInts_ev (l : List Int) (hl : l.length ≤ 1000000000) : Ev (fun k => laws_sameInts.f k l l) true := by
  unfold laws_sameInts.f
  exact ev_pos rfl (sameInts_loop l hl l.length 0 (by omega))

theorem implSameRule_loop (c : Nat) (s : Int) (hc : c ≤ 3) (d : Nat) : ∀ i : Nat, i + d = c → Ev (fun k => impl_SameRule.l0 k (c : Int) s (sameL c s i) (c : Int) (i : Int)) (sameL c s c) := by
  induction d with
  | zero =>
    intro i hi
    refine Ev.step (fun _ => rfl) ?_
    refine ev_neg (by omega) (ev_eq (Ev.now _) ?_)
    rw [show i = c by omega]
  | succ d ih =>
    intro i hi
    refine Ev.step (fun _ => rfl) ?_
    refine ev_pos (by omega) (ev_pos (by omega) (ev_pos (by omega) (Ev.bind (Ev.now _) (ev_pos (by omega) (ev_pos (by simp; omega) (ev_pos (by rw [sameL_length]; omega) ?_))))))
    rw [w64n i (by omega)]
    exact ih (i + 1) (by omega)
theorem implSameRule_ev (c s : Int) : Ev (fun k => impl_SameRule.f k c s) (sameP c s) := by
  have no : Ev (fun k => impl_SameRule.j0 k c s true) [] := Ev.step (fun _ => rfl) (Ev.now _)
  unfold impl_SameRule.f sameP
  rw [coloursOk_f]
  refine Ev.bind (Ev.now _) ?_
  by_cases h : 1 ≤ c ∧ c ≤ 3
  · refine ev_pos (by simp [colB, h]) ?_
    by_cases h1 : s < -1
    · refine ev_pos h1 ?_
      rw [if_neg (by omega)]; exact no
    refine ev_neg h1 ?_
    by_cases h2 : s > 3
    · rw [decide_eq_true h2, if_neg (by omega)]; exact no
    · rw [decide_eq_false h2, if_pos ⟨h, by omega, by omega⟩]
      obtain ⟨m, rfl⟩ := Int.eq_ofNat_of_zero_le (show 0 ≤ c by omega)
      exact Ev.step (fun _ => rfl) (implSameRule_loop m s (by omega) m 0 (by omega))
  · refine ev_neg (by simp [colB]; omega) ?_
    rw [if_neg (fun hh => h hh.1)]; exact no

theorem specSameRule_loop (c : Nat) (s : Int) (hc1 : 1 ≤ c) (hc : c ≤ 3) (hs : -1 ≤ s ∧ s ≤ 3) (d : Nat) : ∀ i : Nat, i + d = c → Ev (fun k => spec_SameRule.l0 k (c : Int) s (sameL c s i) (i : Int)) (sameL c s c) := by
  induction d with
  | zero =>
    intro i hi
    refine Ev.step (fun _ => rfl) ?_
    refine ev_neg (by omega) (ev_eq (Ev.now _) ?_)
    rw [show i = c by omega]
  | succ d ih =>
    intro i hi
    refine Ev.step (fun _ => by rw [spec_SameRule.l0]) ?_
    rw [l1In_f, l1In_f]
    refine ev_pos (by omega) (Ev.bind (Ev.now _) (ev_pos (by simp [inB]; omega) (Ev.bind (Ev.now _) (ev_pos (by simp [inB]; omega) (ev_pos (by omega) (ev_pos (by omega) (Ev.bind (Ev.now _) (ev_pos (by omega) (ev_pos (by simp; omega) (ev_pos (by rw [sameL_length]; omega) ?_))))))))))
    rw [w64n i (by omega)]
    exact ih (i + 1) (by omega)
theorem specSameRule_ev (c s : Int) : Ev (fun k => spec_SameRule.f k c s) (sameP c s) := by
  unfold spec_SameRule.f sameP
  by_cases h : 1 ≤ c ∧ c ≤ 3
  · by_cases h1 : -1 ≤ s ∧ s ≤ 3
    · rw [if_pos ⟨h, h1⟩]
      obtain ⟨m, rfl⟩ := Int.eq_ofNat_of_zero_le (show 0 ≤ c by omega)
      exact specSameRule_loop m s (by omega) (by omega) h1 m 0 (by omega)
    · rw [if_neg (fun hh => h1 hh.2)]
      refine Ev.step (fun _ => by rw [spec_SameRule.l0]) ?_
      rw [l1In_f, l1In_f]
      exact ev_pos (by omega) (Ev.bind (Ev.now _) (ev_pos (by simp [inB]; omega) (Ev.bind (Ev.now _) (ev_neg (by simp [inB]; omega) (Ev.now _)))))
  · rw [if_neg (fun hh => h hh.1)]
    refine Ev.step (fun _ => by rw [spec_SameRule.l0]) ?_
    by_cases h2 : 0 < c
    · rw [l1In_f]
      exact ev_pos h2 (Ev.bind (Ev.now _) (ev_neg (by simp [inB]; omega) (Ev.now _)))
    · exact ev_neg (by omega) (Ev.now _)

theorem sameRows_loop (r : List (List Int)) (hl : r.length ≤ 1000000) (hr : ∀ x ∈ r, x.length ≤ 1000000000) (d : Nat) : ∀ i : Nat, i + d = r.length → Ev (fun k => laws_sameRows.l0 k r r (i : Int)) true := by
  induction d with
  | zero =>
    intro i hi
    refine Ev.step (fun _ => rfl) ?_
    exact ev_neg (by omega) (Ev.now _)
  | succ d ih =>
    intro i hi
    refine Ev.step (fun _ => rfl) ?_
    refine ev_pos (by omega) (ev_pos (by omega) (ev_pos (by omega) (Ev.bind (sameInts_ev _ (hr _ (rowR_mem r i (by omega)))) (ev_pos rfl ?_))))
    rw [w64n i (by omega)]
    exact ih (i + 1) (by omega)
theorem sameRows_ev (r : List (List Int)) (hl : r.length ≤ 1000000) (hr : ∀ x ∈ r, x.length ≤ 1000000000) : Ev (fun k => laws_sameRows.f k r r) true := by
  unfold laws_sameRows.f
  exact ev_pos rfl (sameRows_loop r hl hr r.length 0 (by omega))

theorem DrawSameRule_ev (l : List Int) (hb : ∀ x ∈ l, (Lit.int .u8 x).wf = true) : ∃ c s, Ev (fun k => spec_DrawSameRule.f k l) (c, s) := by
  obtain ⟨b, hf, hk⟩ := l20Open_f l hb
  obtain ⟨v1, e1, _⟩ := pick_ev hk (p := 0) (by omega) (by omega) 5 (by omega) (by omega)
  obtain ⟨v2, e2, _⟩ := pick_ev hk (p := 0 + 1) (by omega) (by omega) 6 (by omega) (by omega)
  obtain ⟨v3, e3, _⟩ := pick_ev hk (p := 0 + 1 + 1) (by omega) (by omega) 30 (by omega) (by omega)
  exact ⟨_, _, by
    unfold spec_DrawSameRule.f
    rw [hf]
    exact Ev.bind (Ev.now _) (Ev.bind e1 (Ev.bind e2 (Ev.bind e3 (Ev.now _))))⟩

theorem FnSameRule : laws_FnSameRule.Pure := by
  intro l hl0 _ hb
  refine Ev.rounds (g := fun k => laws_FnSameRule.f k l) ?_
  unfold laws_FnSameRule.f
  by_cases h : (l.length : Int) > 1048576
  · exact ev_pos h (Ev.now _)
  refine ev_neg h ?_
  obtain ⟨c, s, hd⟩ := DrawSameRule_ev l hb
  have hi := implSameRule_ev c s
  have hs := specSameRule_ev c s
  by_cases hc : (1 ≤ c ∧ c ≤ 3) ∧ -1 ≤ s ∧ s ≤ 3
  · have e : sameP c s = sameL c.toNat s c.toNat := by unfold sameP; rw [if_pos hc]
    rw [e] at hi hs
    obtain ⟨m, rfl⟩ := Int.eq_ofNat_of_zero_le (show 0 ≤ c by omega)
    rw [Int.toNat_natCast] at hi hs
    have hlen := sameL_length m s m
    have hrl : ∀ x ∈ sameL m s m, x.length ≤ 1000000000 := fun x hx => by have := sameL_rows m s m x hx; omega
    obtain ⟨hr, he⟩ := same_rule m s (by omega) (by omega) hc.2.1 hc.2.2
    have ee := implEvenRule_ev (m : Int) (sameL m s m) (by omega) hrl
    rw [he] at ee
    exact Ev.bind hd (Ev.bind hi (Ev.bind hs (Ev.bind (sameRows_ev _ (by omega) hrl) (ev_pos rfl (ev_neg (by omega) (Ev.bind ee (Ev.bind (implRuleOk_ev (m : Int) _ (by omega) hrl) (ev_pos hr (ev_pos rfl (ev_eq (Ev.now _) (by simp)))))))))))
  · have e : sameP c s = [] := by unfold sameP; rw [if_neg hc]
    rw [e] at hi hs
    exact Ev.bind hd (Ev.bind hi (Ev.bind hs (Ev.bind (sameRows_ev [] (by simp) (by simp)) (ev_pos rfl (ev_pos rfl (Ev.bind alive_ev (Ev.now _)))))))

end Go.Proofs.Yteeodaggfaebdaa.Pure
