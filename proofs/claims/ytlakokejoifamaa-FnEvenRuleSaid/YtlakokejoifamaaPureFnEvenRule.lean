/- The law FnEvenRule: for every input the printed function of the law answers true. No condition. -/
import Derived.Test.YtlakokejoifamaaPFnEvenRulex4
import Derived.Test.YtlakokejoifamaaPlain
set_option linter.unusedVariables false
set_option linter.unusedSimpArgs false
namespace Go.Proofs.Ytlakokejoifamaa.Pure
open Go.RowKit Go.Proofs.Ytlakokejoifamaa.PFnEvenRule Go.Proofs.YtlakokejoifamaaW.PrintWords Go.Proofs.YtlakokejoifamaaW.PrintLast Go.Proofs.YtlakokejoifamaaW.PrintMore Go.Proofs.Ytlakokejoifamaa.Plain

theorem l1In_f (x a b : Int) : spec_l1In.f x a b = some (inB x a b) := by
  unfold spec_l1In.f inB
  by_cases h : x ≥ a
  · rw [if_pos h]; congr 1; simp [h]
  · rw [if_neg h]; congr 1; simp; omega

theorem coloursOk_f (x : Int) : impl_coloursOk.f x = some (colB x) := by
  unfold impl_coloursOk.f colB
  by_cases h : x ≥ 1
  · rw [if_pos h]; congr 1; simp [h]
  · rw [if_neg h]; congr 1; simp; omega

theorem implUrnOk_loop (l : List Int) (hl : l.length ≤ 1000000000) (d : Nat) : ∀ i : Nat, i + d = l.length → Ev (fun k => impl_UrnOk.l0 k l l (l.length : Int) (i : Int)) ((l.drop i).all urnE && colB l.length) := by
  induction d with
  | zero =>
    intro i hi
    refine Ev.step (fun _ => rfl) ?_
    refine ev_neg (by omega) ?_
    rw [coloursOk_f, List.drop_eq_nil_of_le (by omega)]
    exact Ev.now _
  | succ d ih =>
    intro i hi
    refine Ev.step (fun _ => rfl) ?_
    refine ev_pos (by omega) (ev_pos (by omega) (ev_pos (by omega) ?_))
    rw [drop_rd l i (by omega), List.all_cons]
    by_cases h1 : rd l (i : Int) < 0
    · refine ev_pos h1 (ev_eq (Ev.now _) ?_)
      rw [show urnE (rd l (i : Int)) = false from by simp [urnE]; omega]; rfl
    · refine ev_neg h1 ?_
      by_cases h2 : rd l (i : Int) > 40
      · refine ev_pos h2 (ev_eq (Ev.now _) ?_)
        rw [show urnE (rd l (i : Int)) = false from by simp [urnE]; omega]; rfl
      · refine ev_neg h2 ?_
        rw [w64n i (by omega), show urnE (rd l (i : Int)) = true from by simp [urnE]; omega, Bool.true_and]
        exact ih (i + 1) (by omega)
theorem implUrnOk_ev (l : List Int) (hl : l.length ≤ 1000000000) : Ev (fun k => impl_UrnOk.f k l) (urnB l) := by
  unfold impl_UrnOk.f
  exact implUrnOk_loop l hl l.length 0 (by omega)

theorem l1Total_loop (l : List Int) (hl : l.length ≤ 1000) (B : Int) (hB : 0 ≤ B) (hB2 : B ≤ 1000000000) (hb : ∀ x ∈ l, -B ≤ x ∧ x ≤ B) (d : Nat) : ∀ i : Nat, i + d = l.length → Ev (fun k => spec_l1Total.l0 k l (tot (l.take i)) (i : Int)) (tot l) := by
  induction d with
  | zero =>
    intro i hi
    refine Ev.step (fun _ => rfl) ?_
    refine ev_neg (by omega) (ev_eq (Ev.now _) ?_)
    rw [List.take_of_length_le (by omega)]
  | succ d ih =>
    intro i hi
    refine Ev.step (fun _ => rfl) ?_
    refine ev_pos (by omega) (ev_pos (by omega) ?_)
    have h1 := tot_abs (l.take i) B hB (fun x hx => hb x (List.mem_of_mem_take hx))
    have h2 := hb _ (rd_mem l i (by omega))
    have h3 : ((l.take i).length : Int) * B ≤ 1000 * 1000000000 := (mulb (by omega) (by rw [List.length_take]; omega) hB hB2).2
    have h4 : tot (l.take i) + rd l (i : Int) = tot (l.take (i + 1)) := by rw [take_rd l i (by omega), tot_append]; simp [tot]
    rw [w64n i (by omega), w64 (by omega) (by omega), h4]
    exact ih (i + 1) (by omega)
theorem l1Total_ev (l : List Int) (hl : l.length ≤ 1000) (hb : ∀ x ∈ l, -1000000000 ≤ x ∧ x ≤ 1000000000) : Ev (fun k => spec_l1Total.f k l) (tot l) := by
  unfold spec_l1Total.f
  exact l1Total_loop l hl 1000000000 (by omega) (by omega) hb l.length 0 (by omega)

theorem implSum_loop (l : List Int) (hl : l.length ≤ 1000) (B : Int) (hB : 0 ≤ B) (hB2 : B ≤ 1000000000) (hb : ∀ x ∈ l, -B ≤ x ∧ x ≤ B) (d : Nat) : ∀ i : Nat, i + d = l.length → Ev (fun k => impl_sum.l0 k (tot (l.take i)) l (l.length : Int) (i : Int)) (tot l) := by
  induction d with
  | zero =>
    intro i hi
    refine Ev.step (fun _ => rfl) ?_
    refine ev_neg (by omega) (ev_eq (Ev.now _) ?_)
    rw [List.take_of_length_le (by omega)]
  | succ d ih =>
    intro i hi
    refine Ev.step (fun _ => rfl) ?_
    refine ev_pos (by omega) (ev_pos (by omega) (ev_pos (by omega) ?_))
    have h1 := tot_abs (l.take i) B hB (fun x hx => hb x (List.mem_of_mem_take hx))
    have h2 := hb _ (rd_mem l i (by omega))
    have h3 : ((l.take i).length : Int) * B ≤ 1000 * 1000000000 := (mulb (by omega) (by rw [List.length_take]; omega) hB hB2).2
    have h4 : tot (l.take i) + rd l (i : Int) = tot (l.take (i + 1)) := by rw [take_rd l i (by omega), tot_append]; simp [tot]
    rw [w64n i (by omega), w64 (by omega) (by omega), h4]
    exact ih (i + 1) (by omega)
theorem implSum_ev (l : List Int) (hl : l.length ≤ 1000) (hb : ∀ x ∈ l, -1000000000 ≤ x ∧ x ≤ 1000000000) : Ev (fun k => impl_sum.f k l) (tot l) := by
  unfold impl_sum.f
  exact implSum_loop l hl 1000000000 (by omega) (by omega) hb l.length 0 (by omega)

theorem l20Open_f (l : List Int) (hb : ∀ x ∈ l, (Lit.int .u8 x).wf = true) : ∃ b, spec_l20Open.f l = some (b, 0) ∧ OkB b := by
  unfold spec_l20Open.f
  by_cases h : (l.length : Int) > 2000
  · rw [if_pos h, if_pos (by omega)]
    exact ⟨_, rfl, fun x hx => u8_wf (hb x (List.mem_of_mem_take hx)), by rw [List.length_take]; omega⟩
  · rw [if_neg h]
    exact ⟨_, rfl, fun x hx => u8_wf (hb x hx), by omega⟩

theorem pick_ev {b : List Int} (hb : OkB b) {p : Int} (hp0 : 0 ≤ p) (hp : p ≤ 1000000) (n : Int) (hn0 : 1 ≤ n) (hn : n ≤ 1000000) : ∃ v, Ev (fun k => spec_l20Rd_pick.f k b p n) (v, p + 1) ∧ 0 ≤ v ∧ v < n := by
  obtain ⟨hb1, hb2⟩ := hb
  unfold spec_l20Rd_pick.f
  have e1 : wrap64 (p + 1) = p + 1 := w64 (by omega) (by omega)
  by_cases h0 : b.length = 0
  · refine ⟨0, ev_neg (by omega) ?_, by omega, by omega⟩
    rw [show ((b.length : Int) == 0) = true from by simp [h0], e1]
    exact Ev.step (fun _ => rfl) (Ev.now _)
  · have hz : ((b.length : Int) == 0) = false := by simp; intro hh; exact h0 (by simp [hh])
    have hat : ∀ i : Int, 0 ≤ i → i < b.length → 0 ≤ rd b i ∧ rd b i ≤ 255 := fun i h1 h2 => hb1 _ (rd_range b i h1 h2)
    have e2 : wrap64 (p + 1 - 1) = p := by rw [show p + 1 - 1 = p by omega]; exact w64 (by omega) (by omega)
    by_cases h1 : p < (b.length : Int)
    · have hr := hat p hp0 h1
      have ht := tmod_range (rd b p) n hr.1 (by omega)
      refine ⟨Int.tmod (rd b p) n, ev_neg (by omega) ?_, ht.1, ht.2⟩
      rw [hz, e1]
      refine Ev.step (fun _ => by rw [spec_l20Rd_pick.j0]) (ev_neg (by simp) ?_)
      rw [e2, w64 (x := rd b p) (by omega) (by omega)]
      exact ev_pos h1 (ev_pos hp0 (ev_neg (by omega) (Ev.now _)))
    · have m1 := tmod_range p (b.length : Int) hp0 (by omega)
      have e3 : wrap64 (p * 7) = p * 7 := w64 (by omega) (by omega)
      have e4 : wrap64 (p * 7 + 3) = p * 7 + 3 := w64 (by omega) (by omega)
      have m2 := tmod_range (p * 7 + 3) (b.length : Int) (by omega) (by omega)
      have r1 := hat _ m1.1 m1.2
      have r2 := hat _ m2.1 m2.2
      have d1 := tdiv_range p (b.length : Int) hp0 (by omega)
      have key : ∀ x y z : Int, 0 ≤ x → x ≤ 255 → 0 ≤ y → y ≤ 255 → 0 ≤ z → z ≤ 1000000 →
          wrap64 (wrap64 (wrap64 (wrap64 (wrap64 x * 131) + wrap64 (wrap64 y * 1117)) + wrap64 (p * 29)) + wrap64 (wrap64 z * 53)) = x * 131 + y * 1117 + p * 29 + z * 53 := by
        intro x y z _ _ _ _ _ _
        rw [w64 (x := x) (by omega) (by omega), w64 (x := y) (by omega) (by omega), w64 (x := z) (by omega) (by omega), w64 (x := x * 131) (by omega) (by omega), w64 (x := y * 1117) (by omega) (by omega), w64 (x := p * 29) (by omega) (by omega), w64 (x := z * 53) (by omega) (by omega),
          w64 (x := x * 131 + y * 1117) (by omega) (by omega), w64 (x := x * 131 + y * 1117 + p * 29) (by omega) (by omega), w64 (by omega) (by omega)]
      obtain ⟨X, hX, hX0, hX1⟩ : ∃ X, wrap64 (wrap64 (wrap64 (wrap64 (wrap64 (rd b (Int.tmod p b.length)) * 131) + wrap64 (wrap64 (rd b (Int.tmod (p * 7 + 3) b.length)) * 1117)) + wrap64 (p * 29)) + wrap64 (wrap64 (Int.tdiv p b.length) * 53)) = X ∧ 0 ≤ X ∧ X ≤ 100000000 :=
        ⟨_, key _ _ _ r1.1 r1.2 r2.1 r2.2 d1.1 (by omega), by omega, by omega⟩
      have d2 := tdiv_range X 64 hX0 (by omega)
      have hx := xor_nonneg X (Int.tdiv X 64) hX0 (by omega) d2.1 (by omega)
      have ht := tmod_range _ n hx (by omega)
      refine ⟨Int.tmod (Go.bits .xor .i64 X (Int.tdiv X 64)) n, ev_neg (by omega) ?_, ht.1, ht.2⟩
      rw [hz, e1]
      refine Ev.step (fun _ => by rw [spec_l20Rd_pick.j0]) (ev_neg (by simp) ?_)
      rw [e2, e3, e4, hX, w64 (x := Int.tdiv X 64) (by omega) (by omega)]
      exact ev_neg h1 (ev_neg (by omega) (ev_pos m1.1 (ev_pos m1.2 (ev_pos m2.1 (ev_pos m2.2 (ev_neg (by omega) (Ev.now _)))))))

theorem odd_ev {b : List Int} (hb : OkB b) {p : Int} (hp0 : 0 ≤ p) (hp : p ≤ 1000000) (n : Int) (hn0 : 1 ≤ n) (hn : n ≤ 1000000) : ∃ v, Ev (fun k => spec_l20Rd_odd.f k b p n) (v, p + 1) := by
  obtain ⟨v, hv, _, _⟩ := pick_ev hb hp0 hp n hn0 hn
  unfold spec_l20Rd_odd.f
  exact ⟨_, ev_pos (by omega) (Ev.bind hv (Ev.now _))⟩

theorem alive_ev : Ev (fun k => laws_alive.f k) true := by
  unfold laws_alive.f
  exact Ev.bind (implUrnOk_ev [1] (by simp)) (ev_pos (by decide) (Ev.bind (implUrnOk_ev [] (by simp)) (Ev.now _)))

theorem rdL_eq (xs : List (List Int)) (i : Int) : rd_L2 xs i = rowR xs i := rfl

theorem implRuleOk_inner (c : Int) (rule : List (List Int)) (i : Nat) (rest : Bool) (row : List Int) (hl : row.length ≤ 1000000000) (H : Ev (fun k => impl_RuleOk.l0 k c rule rule (rule.length : Int) ((i + 1 : Nat) : Int)) rest) (hi : i ≤ 1000000000) (d : Nat) : ∀ j : Nat, j + d = row.length →
    Ev (fun k => impl_RuleOk.l1 k c rule (i : Int) rule (rule.length : Int) (i : Int) row (row.length : Int) (j : Int)) (entsB i j (row.drop j) && rest) := by
  induction d with
  | zero =>
    intro j hj
    refine Ev.step (fun _ => rfl) ?_
    refine ev_neg (by omega) ?_
    rw [List.drop_eq_nil_of_le (by omega), w64n i (by omega)]
    exact ev_eq H (by simp [entsB])
  | succ d ih =>
    intro j hj
    refine Ev.step (fun _ => rfl) ?_
    refine ev_pos (by omega) (ev_pos (by omega) (ev_pos (by omega) ?_))
    rw [drop_rd row j (by omega), entsB]
    have no : entB i j (rd row (j : Int)) = false → (entB i j (rd row (j : Int)) && entsB i (j + 1) (row.drop (j + 1)) && rest) = false := fun h => by rw [h]; rfl
    by_cases h1 : rd row (j : Int) > 3
    · refine ev_pos h1 (ev_eq (Ev.now _) ?_)
      rw [no (by simp [entB]; omega)]
    refine ev_neg h1 ?_
    by_cases h2 : rd row (j : Int) < -1
    · refine ev_pos h2 (ev_eq (Ev.now _) ?_)
      rw [no (by simp [entB]; omega)]
    refine ev_neg h2 ?_
    have go : entB i j (rd row (j : Int)) = true → Ev (fun k => impl_RuleOk.l1 k c rule (i : Int) rule (rule.length : Int) (i : Int) row (row.length : Int) (wrap64 ((j : Int) + 1))) (entB i j (rd row (j : Int)) && entsB i (j + 1) (row.drop (j + 1)) && rest) := fun h => by
      rw [h, Bool.true_and, w64n j (by omega)]
      exact ih (j + 1) (by omega)
    by_cases h3 : rd row (j : Int) = -1
    · refine ev_pos h3 ?_
      by_cases h4 : (i : Int) = (j : Int)
      · exact ev_pos h4 (go (by simp [entB]; omega))
      · refine ev_neg h4 (ev_eq (Ev.now _) ?_)
        rw [no (by simp [entB, h3, h4])]
    · exact ev_neg h3 (go (by simp [entB]; omega))
theorem implRuleOk_loop (c : Int) (rule : List (List Int)) (hl : rule.length ≤ 100000000) (hr : ∀ r ∈ rule, r.length ≤ 1000000000) (d : Nat) : ∀ i : Nat, i + d = rule.length →
    Ev (fun k => impl_RuleOk.l0 k c rule rule (rule.length : Int) (i : Int)) (rowsB c i (rule.drop i) && (colB c && decide ((rule.length : Int) = c))) := by
  induction d with
  | zero =>
    intro i hi
    refine Ev.step (fun _ => rfl) ?_
    refine ev_neg (by omega) ?_
    rw [coloursOk_f, List.drop_eq_nil_of_le (by omega)]
    cases h : colB c
    · exact Ev.now _
    · exact ev_eq (Ev.now _) (by simp [rowsB]; rfl)
  | succ d ih =>
    intro i hi
    refine Ev.step (fun _ => rfl) ?_
    refine ev_pos (by omega) (ev_pos (by omega) (ev_pos (by omega) ?_))
    rw [rdL_eq, drop_rowR rule i (by omega), rowsB, rowB]
    by_cases h : ((rowR rule (i : Int)).length : Int) = c
    · refine ev_pos h ?_
      have := implRuleOk_inner c rule i _ (rowR rule (i : Int)) (hr _ (rowR_mem rule i (by omega))) (ih (i + 1) (by omega)) (by omega) (rowR rule (i : Int)).length 0 (by omega)
      refine ev_eq this ?_
      simp [h, Bool.and_assoc]
    · refine ev_neg h (ev_eq (Ev.now _) ?_)
      simp [h]
theorem implRuleOk_ev (c : Int) (rule : List (List Int)) (hl : rule.length ≤ 100000000) (hr : ∀ r ∈ rule, r.length ≤ 1000000000) : Ev (fun k => impl_RuleOk.f k c rule) (ruleB c rule) := by
  unfold impl_RuleOk.f
  exact implRuleOk_loop c rule hl hr rule.length 0 (by omega)

theorem specRuleOk_inner (c : Int) (rule : List (List Int)) (i : Nat) (rest : Bool) (hi : i < rule.length) (hl : rule.length ≤ 100000000) (hl2 : (rowR rule i).length ≤ 1000000000) (hc : ((rowR rule i).length : Int) = c) (H : Ev (fun k => spec_RuleOk.l0 k c rule ((i + 1 : Nat) : Int)) rest) (d : Nat) : ∀ j : Nat, j + d = (rowR rule i).length →
    Ev (fun k => spec_RuleOk.l1 k c rule (i : Int) (j : Int)) (entsB i j ((rowR rule i).drop j) && rest) := by
  induction d with
  | zero =>
    intro j hj
    refine Ev.step (fun _ => rfl) ?_
    refine ev_neg (by omega) ?_
    rw [List.drop_eq_nil_of_le (by omega), w64n i (by omega)]
    exact ev_eq H (by simp [entsB])
  | succ d ih =>
    intro j hj
    refine Ev.step (fun _ => rfl) ?_
    refine ev_pos (by omega) (ev_pos (by omega) (ev_pos (by omega) (ev_pos (by omega) ?_)))
    refine ev_pos (show (j : Int) < ((rowR rule i).length : Int) by omega) ?_
    rw [drop_rd _ j (by omega), entsB, rdL_eq, l1In_f, w64n j (by omega)]
    have no : entB i j (rd (rowR rule i) (j : Int)) = false → (entB i j (rd (rowR rule i) (j : Int)) && entsB i (j + 1) ((rowR rule i).drop (j + 1)) && rest) = false := fun h => by rw [h]; rfl
    have go : entB i j (rd (rowR rule i) (j : Int)) = true → Ev (fun k => spec_RuleOk.l1 k c rule (i : Int) ((j + 1 : Nat) : Int)) (entB i j (rd (rowR rule i) (j : Int)) && entsB i (j + 1) ((rowR rule i).drop (j + 1)) && rest) := fun h => by
      rw [h, Bool.true_and]
      exact ih (j + 1) (by omega)
    refine Ev.bind (Ev.now _) ?_
    by_cases h1 : 0 ≤ rd (rowR rule i) (j : Int) ∧ rd (rowR rule i) (j : Int) ≤ 3
    · exact ev_pos (by simp [inB]; omega) (go (by simp [entB]; omega))
    refine ev_neg (by simp [inB]; omega) ?_
    by_cases h3 : rd (rowR rule i) (j : Int) = -1
    · refine ev_pos h3 ?_
      by_cases h4 : (j : Int) = (i : Int)
      · exact ev_pos h4 (go (by simp [entB]; omega))
      · refine ev_neg h4 (ev_eq (Ev.now _) ?_)
        rw [no (by simp [entB, h3]; omega)]
    · refine ev_neg h3 (ev_eq (Ev.now _) ?_)
      rw [no (by simp [entB]; omega)]
theorem specRuleOk_loop (c : Int) (rule : List (List Int)) (hl : rule.length ≤ 100000000) (hr : ∀ r ∈ rule, r.length ≤ 1000000000) (d : Nat) : ∀ i : Nat, i + d = rule.length →
    Ev (fun k => spec_RuleOk.l0 k c rule (i : Int)) (rowsB c i (rule.drop i) && (colB c && decide ((rule.length : Int) = c))) := by
  induction d with
  | zero =>
    intro i hi
    refine Ev.step (fun _ => rfl) ?_
    refine ev_neg (by omega) ?_
    rw [l1In_f, show inB c 1 3 = colB c from rfl, List.drop_eq_nil_of_le (by omega)]
    cases h : colB c
    · exact Ev.now _
    · exact ev_eq (Ev.now _) (by simp [rowsB]; rfl)
  | succ d ih =>
    intro i hi
    refine Ev.step (fun _ => rfl) ?_
    refine ev_pos (by omega) (ev_pos (by omega) ?_)
    rw [rdL_eq, drop_rowR rule i (by omega), rowsB, rowB]
    by_cases h : ((rowR rule (i : Int)).length : Int) = c
    · refine ev_pos h ?_
      have := specRuleOk_inner c rule i _ (by omega) hl (hr _ (rowR_mem rule i (by omega))) h (ih (i + 1) (by omega)) (rowR rule (i : Int)).length 0 (by omega)
      refine ev_eq this ?_
      simp [h, Bool.and_assoc]
    · refine ev_neg h (ev_eq (Ev.now _) ?_)
      simp [h]
theorem specRuleOk_ev (c : Int) (rule : List (List Int)) (hl : rule.length ≤ 100000000) (hr : ∀ r ∈ rule, r.length ≤ 1000000000) : Ev (fun k => spec_RuleOk.f k c rule) (ruleB c rule) := by
  unfold spec_RuleOk.f
  exact specRuleOk_loop c rule hl hr rule.length 0 (by omega)

theorem implEvenRule_loop (c : Nat) (r : List (List Int)) (hr : RuleK c r) (d : Nat) : ∀ i : Nat, i + d = r.length → Ev (fun k => impl_EvenRule.l0 k r r (r.length : Int) (i : Int)) (if ∀ x ∈ r.drop i, tot x = tot (rowR r 0) then (tot (rowR r 0), true) else (0, false)) := by
  have hlen := hr.len; have hc1 := hr.c1; have hc3 := hr.c3
  have hrow : ∀ x ∈ r, Ev (fun k => impl_sum.f k x) (tot x) := fun x hx => by
    have := row_bounds hr x hx
    exact implSum_ev x (by omega) (fun y hy => by have := this.2 y hy; omega)
  have h0 : rowR r 0 ∈ r := rowR_range r 0 (by omega) (by omega)
  induction d with
  | zero =>
    intro i hi
    refine Ev.step (fun _ => rfl) ?_
    refine ev_neg (by omega) (ev_pos (by omega) ?_)
    rw [List.drop_eq_nil_of_le (by omega), if_pos (by simp)]
    exact Ev.bind (hrow _ h0) (Ev.now _)
  | succ d ih =>
    intro i hi
    refine Ev.step (fun _ => rfl) ?_
    refine ev_pos (by omega) (ev_pos (by omega) (ev_pos (by omega) ?_))
    refine Ev.bind (hrow _ (rowR_mem r i (by omega))) (ev_pos (by omega) (Ev.bind (hrow _ h0) ?_))
    rw [drop_rowR r i (by omega)]
    by_cases h : tot (rowR r (i : Int)) = tot (rowR r 0)
    · refine ev_pos h ?_
      rw [w64n i (by omega)]
      refine ev_eq (ih (i + 1) (by omega)) ?_
      simp [h]
    · refine ev_neg h (ev_eq (Ev.now _) ?_)
      rw [if_neg (fun hh => h (hh _ List.mem_cons_self))]
theorem implEvenRule_ev (c : Int) (r : List (List Int)) (hl : r.length ≤ 100000000) (hr : ∀ x ∈ r, x.length ≤ 1000000000) : Ev (fun k => impl_EvenRule.f k c r) (evenP c r) := by
  unfold impl_EvenRule.f evenP
  refine Ev.bind (implRuleOk_ev c r hl hr) ?_
  cases h : ruleB c r with
  | false => rw [if_neg (fun hh => by cases hh.1)]; exact ev_neg (by simp) (Ev.now _)
  | true =>
    have hk := (ruleB_known h).1
    refine ev_pos rfl ?_
    refine ev_eq (implEvenRule_loop _ r hk r.length 0 (by omega)) ?_
    simp

theorem l20Rule_row {b : List Int} (hb : OkB b) (c : Nat) (n kind : Int) (R : List (List Int)) (i : Int) (M : Int) (hM : M ≤ 900000) (Q : List (List Int) × Int → Prop) (hc3 : c ≤ 3)
    (H : ∀ (row : List Int) (p : Int), 0 ≤ p → p ≤ M → row.length = c → ∃ z, Ev (fun k => spec_l20Rule.l1 k (c : Int) n R kind i row (c : Int) b p) z ∧ Q z) (d : Nat) :
    ∀ (j : Nat) (row : List Int) (p : Int), 0 ≤ p → p + 2 * d ≤ M → j + d = c → row.length = c → ∃ z, Ev (fun k => spec_l20Rule.l1 k (c : Int) n R kind i row (j : Int) b p) z ∧ Q z := by
  induction d with
  | zero =>
    intro j row p hp0 hp hj hl
    obtain rfl : j = c := by omega
    exact H row p hp0 (by omega) hl
  | succ d ih =>
    intro j row p hp0 hp hj hl
    obtain ⟨v1, e1, a1, b1⟩ := pick_ev hb hp0 (by omega) 3 (by omega) (by omega)
    obtain ⟨v2, e2, a2, b2⟩ := pick_ev hb (p := p + 1) (by omega) (by omega) 2 (by omega) (by omega)
    obtain ⟨z, hz, hQ⟩ := ih (j + 1) (row.set j (wrap64 (v1 * v2))) (p + 1 + 1) (by omega) (by omega) (by omega) (by rw [List.length_set]; exact hl)
    refine ⟨z, Ev.step (fun _ => rfl) (ev_pos (by omega) (Ev.bind e1 (Ev.bind e2 (ev_pos (by omega) (ev_pos (by rw [hl]; omega) ?_))))), hQ⟩
    rw [w64n j (by omega), show ((j : Int)).toNat = j from by simp]
    exact hz
theorem l20Rule_loop {b : List Int} (hb : OkB b) (c : Nat) (hc1 : 1 ≤ c) (hc3 : c ≤ 3) (n kind : Int) (hn0 : 1 ≤ n) (hn : n ≤ 1000000) (M : Int) (hM : M ≤ 900000) (d : Nat) :
    ∀ (i : Nat) (R : List (List Int)) (p : Int), 0 ≤ p → p + 6 * d + 2 ≤ M → i + d = c → R.length = i → (∀ x ∈ R, x.length = c) →
    ∃ z, Ev (fun k => spec_l20Rule.l0 k (c : Int) n R kind (i : Int) b p) z ∧ (0 ≤ z.2 ∧ z.2 ≤ M ∧ z.1.length ≤ 3 ∧ ∀ x ∈ z.1, x.length ≤ 3) := by
  induction d with
  | zero =>
    intro i R p hp0 hp hi hl hR
    obtain ⟨v, hv⟩ := odd_ev hb hp0 (by omega) n hn0 hn
    cases v with
    | false => exact ⟨(R, p + 1), Ev.step (fun _ => rfl) (ev_neg (by omega) (Ev.bind hv (Ev.now _))), by simp only; omega, by simp only; omega, by simp only; omega, fun x hx => by have := hR x hx; omega⟩
    | true =>
      obtain ⟨w, hw, hw0, hw1⟩ := pick_ev hb (p := p + 1) (by omega) (by omega) 2 (by omega) (by omega)
      have h0 : rowR R 0 ∈ R := rowR_range R 0 (by omega) (by omega)
      have h0l := hR _ h0
      have ec : wrap64 ((c : Int) - 1) = (c : Int) - 1 := w64 (by omega) (by omega)
      by_cases h1 : w = 0
      · refine ⟨(R.set 0 ((rowR R 0).set (wrap64 ((c : Int) - 1)).toNat 4), p + 1 + 1), Ev.step (fun _ => rfl) (ev_neg (by omega) (Ev.bind hv (Ev.bind hw (ev_pos h1 (ev_pos (by omega) (ev_pos (by omega) (ev_pos (show wrap64 ((c : Int) - 1) < ((rowR R 0).length : Int) by rw [h0l]; omega) (Ev.now _)))))))), by simp only; omega, by simp only; omega, by simp only [List.length_set]; omega, fun x hx => ?_⟩
        rcases List.mem_or_eq_of_mem_set hx with hx | rfl
        · have := hR x hx; omega
        · rw [List.length_set]; omega
      · exact ⟨(R.drop 1, p + 1 + 1), Ev.step (fun _ => rfl) (ev_neg (by omega) (Ev.bind hv (Ev.bind hw (ev_neg h1 (ev_pos (by omega) (Ev.now _)))))), by simp only; omega, by simp only; omega, by simp only [List.length_drop]; omega, fun x hx => by have := hR x (List.mem_of_mem_drop hx); omega⟩
  | succ d ih =>
    intro i R p hp0 hp hi hl hR
    have H : ∀ (row : List Int) (q : Int), 0 ≤ q → q ≤ M - 6 * d - 2 → row.length = c → ∃ z, Ev (fun k => spec_l20Rule.l1 k (c : Int) n R kind (i : Int) row (c : Int) b q) z ∧ (0 ≤ z.2 ∧ z.2 ≤ M ∧ z.1.length ≤ 3 ∧ ∀ x ∈ z.1, x.length ≤ 3) := by
      intro row q hq0 hq hrl
      have fin : ∀ row' : List Int, row'.length = c → ∃ z, Ev (fun k => spec_l20Rule.l0 k (c : Int) n (R ++ [row']) kind (wrap64 ((i : Int) + 1)) b q) z ∧ (0 ≤ z.2 ∧ z.2 ≤ M ∧ z.1.length ≤ 3 ∧ ∀ x ∈ z.1, x.length ≤ 3) := by
        intro row' hr'
        rw [w64n i (by omega)]
        refine ih (i + 1) (R ++ [row']) q hq0 (by omega) (by omega) (by simp; omega) (fun x hx => ?_)
        rcases List.mem_append.1 hx with hx | hx
        · exact hR x hx
        · have : x = row' := by simpa using hx
          rw [this]; exact hr'
      by_cases k0 : kind = 0
      · obtain ⟨z, hz, hQ⟩ := fin ((List.replicate ((c : Int)).toNat 0).set ((i : Int)).toNat 1) (by simp)
        exact ⟨z, Ev.step (fun _ => rfl) (ev_neg (by omega) (ev_pos k0 (ev_pos (by omega) (ev_pos (by omega) (Ev.bind (Ev.now _) (ev_pos (by omega) (ev_pos (by simp; omega) (ev_pos (by omega) hz)))))))), hQ⟩
      · by_cases k1 : kind = 1
        · have m1 := tmod_range ((i + 1 : Nat) : Int) (c : Int) (by omega) (by omega)
          obtain ⟨z, hz, hQ⟩ := fin (((List.replicate ((c : Int)).toNat 0).set ((i : Int)).toNat (-1)).set (Int.tmod (wrap64 ((i : Int) + 1)) (c : Int)).toNat (wrap64 ((rd ((List.replicate ((c : Int)).toNat 0).set ((i : Int)).toNat (-1)) (Int.tmod (wrap64 ((i : Int) + 1)) (c : Int))) + 1))) (by simp)
          exact ⟨z, Ev.step (fun _ => rfl) (ev_neg (by omega) (ev_neg k0 (ev_pos k1 (ev_pos (by omega) (ev_pos (by omega) (Ev.bind (Ev.now _) (ev_pos (by omega) (ev_pos (by simp; omega) (Ev.bind (Ev.now _) (ev_neg (by omega) (ev_pos (by rw [w64n i (by omega)]; exact m1.1) (ev_pos (by rw [w64n i (by omega)]; simp only [List.length_replicate, Int.toNat_natCast]; exact m1.2) (ev_pos (by omega) hz))))))))))))), hQ⟩
        · obtain ⟨z, hz, hQ⟩ := fin row hrl
          exact ⟨z, Ev.step (fun _ => rfl) (ev_neg (by omega) (ev_neg k0 (ev_neg k1 (ev_pos (by omega) hz)))), hQ⟩
    obtain ⟨z, hz, hQ⟩ := l20Rule_row hb c n kind R i (M - 6 * d - 2) (by omega) _ hc3 H c 0 (List.replicate c 0) p hp0 (by omega) (by omega) (by simp)
    exact ⟨z, Ev.step (fun _ => rfl) (ev_pos (by omega) (ev_pos (by omega) (ev_pos (by omega) hz))), hQ⟩
theorem l20Rule_ev {b : List Int} (hb : OkB b) {p : Int} (hp0 : 0 ≤ p) (hp : p ≤ 800000) (c n : Int) (hn0 : 1 ≤ n) (hn : n ≤ 1000000) :
    ∃ r p', Ev (fun k => spec_l20Rule.f k b p c n) (r, p') ∧ 0 ≤ p' ∧ p' ≤ p + 30 ∧ r.length ≤ 3 ∧ ∀ x ∈ r, x.length ≤ 3 := by
  obtain ⟨v, hv, hv0, hv1⟩ := pick_ev hb hp0 (by omega) 4 (by omega) (by omega)
  obtain ⟨m, hm, hm1, hm3⟩ : ∃ m : Nat, mn (mx c 1) 3 = (m : Int) ∧ 1 ≤ m ∧ m ≤ 3 := by
    have : 1 ≤ mn (mx c 1) 3 ∧ mn (mx c 1) 3 ≤ 3 := by unfold mn mx; split <;> split <;> omega
    exact ⟨(mn (mx c 1) 3).toNat, by omega, by omega, by omega⟩
  obtain ⟨z, hz, h1, h2, h3, h4⟩ := l20Rule_loop hb m hm1 hm3 n v hn0 hn (p + 30) (by omega) m 0 [] (p + 1) (by omega) (by omega) (by omega) rfl (by simp)
  refine ⟨z.1, z.2, ?_, h1, h2, h3, h4⟩
  unfold spec_l20Rule.f
  refine Ev.bind hv ?_
  rw [hm]
  exact hz

theorem specEvenRule_loop (c : Nat) (r : List (List Int)) (hr : RuleK c r) (d : Nat) : ∀ i : Nat, i + d = r.length → Ev (fun k => spec_EvenRule.l0 k (c : Int) r (i : Int)) (if ∀ x ∈ r.drop i, tot x = tot (rowR r 0) then (tot (rowR r 0), true) else (0, false)) := by
  have hlen := hr.len; have hc1 := hr.c1; have hc3 := hr.c3
  have hrow : ∀ x ∈ r, Ev (fun k => spec_l1Total.f k x) (tot x) := fun x hx => by
    have := row_bounds hr x hx
    exact l1Total_ev x (by omega) (fun y hy => by have := this.2 y hy; omega)
  have h0 : rowR r 0 ∈ r := rowR_range r 0 (by omega) (by omega)
  induction d with
  | zero =>
    intro i hi
    refine Ev.step (fun _ => rfl) ?_
    refine ev_neg (by omega) (ev_pos (by omega) ?_)
    rw [List.drop_eq_nil_of_le (by omega), if_pos (by simp)]
    exact Ev.bind (hrow _ h0) (Ev.now _)
  | succ d ih =>
    intro i hi
    refine Ev.step (fun _ => rfl) ?_
    refine ev_pos (by omega) (ev_pos (by omega) (ev_pos (by omega) ?_))
    refine Ev.bind (hrow _ (rowR_mem r i (by omega))) (ev_pos (by omega) (Ev.bind (hrow _ h0) ?_))
    rw [drop_rowR r i (by omega)]
    by_cases h : tot (rowR r (i : Int)) = tot (rowR r 0)
    · refine ev_pos h ?_
      rw [w64n i (by omega)]
      refine ev_eq (ih (i + 1) (by omega)) ?_
      simp [h]
    · refine ev_neg h (ev_eq (Ev.now _) ?_)
      rw [if_neg (fun hh => h (hh _ List.mem_cons_self))]
theorem specEvenRule_ev (c : Int) (r : List (List Int)) (hl : r.length ≤ 100000000) (hr : ∀ x ∈ r, x.length ≤ 1000000000) : Ev (fun k => spec_EvenRule.f k c r) (evenP c r) := by
  unfold spec_EvenRule.f evenP
  refine Ev.bind (specRuleOk_ev c r hl hr) ?_
  cases h : ruleB c r with
  | false => rw [if_neg (fun hh => by cases hh.1)]; exact ev_neg (by simp) (Ev.now _)
  | true =>
    obtain ⟨hk, hc1, hc3⟩ := ruleB_known h
    obtain ⟨m, rfl⟩ := Int.eq_ofNat_of_zero_le (show 0 ≤ c by omega)
    refine ev_pos rfl ?_
    refine ev_eq (specEvenRule_loop _ r hk r.length 0 (by omega)) ?_
    simp

theorem DrawEvenRule_ev (l : List Int) (hb : ∀ x ∈ l, (Lit.int .u8 x).wf = true) : ∃ c r, Ev (fun k => spec_DrawEvenRule.f k l) (c, r) ∧ r.length ≤ 3 ∧ ∀ x ∈ r, x.length ≤ 3 := by
  obtain ⟨b, hf, hk⟩ := l20Open_f l hb
  obtain ⟨v1, e1, _⟩ := pick_ev hk (p := 0) (by omega) (by omega) 3 (by omega) (by omega)
  obtain ⟨r, p', hr, _, _, h3, h4⟩ := l20Rule_ev hk (p := 0 + 1) (by omega) (by omega) (wrap64 (1 + v1)) 9 (by omega) (by omega)
  exact ⟨_, r, by
    unfold spec_DrawEvenRule.f
    rw [hf]
    exact Ev.bind (Ev.now _) (Ev.bind e1 (Ev.bind hr (Ev.now _))), h3, h4⟩

theorem FnEvenRule_inner (c : Nat) (r : List (List Int)) (hk : RuleK c r) (m : Int) (i : Nat) (hi : i < c) (hm : tot (rowR r (i : Int)) = m) (H : Ev (fun k => laws_FnEvenRule.l0 k (c : Int) r m ((i + 1 : Nat) : Int)) true) (d : Nat) : ∀ j : Nat, j + d = c →
    Ev (fun k => laws_FnEvenRule.l1 k (c : Int) r m (i : Int) (tot ((rowR r (i : Int)).take j)) (j : Int)) true := by
  have hrow := hk.rows i hi
  have hc3 := hk.c3
  induction d with
  | zero =>
    intro j hj
    refine Ev.step (fun _ => rfl) ?_
    rw [List.take_of_length_le (by omega)]
    refine ev_neg (by omega) (ev_pos hm ?_)
    rw [w64n i (by omega)]
    exact H
  | succ d ih =>
    intro j hj
    refine Ev.step (fun _ => rfl) ?_
    refine ev_pos (by omega) (ev_pos (by omega) (ev_pos (by rw [hk.len]; omega) (ev_pos (by omega) (ev_pos (show (j : Int) < ((rowR r (i : Int)).length : Int) by omega) ?_))))
    have h1 := hk.ent i j hi (by omega)
    have h2 := tot_abs ((rowR r (i : Int)).take j) 3 (by omega) (fun y hy => by
      have := (row_bounds hk _ (rowR_mem r i (by rw [hk.len]; exact hi))).2 y (List.mem_of_mem_take hy); omega)
    have h3 : ((rowR r (i : Int)).take j).length ≤ 3 := by rw [List.length_take]; omega
    have h4 : tot ((rowR r (i : Int)).take j) + rd (rowR r (i : Int)) (j : Int) = tot ((rowR r (i : Int)).take (j + 1)) := by rw [take_rd _ j (by omega), tot_append]; simp [tot]
    rw [rdL_eq, w64n j (by omega), w64 (by omega) (by omega), h4]
    exact ih (j + 1) (by omega)
theorem FnEvenRule_loop (c : Nat) (r : List (List Int)) (hk : RuleK c r) (m : Int) (hm : ∀ x ∈ r, tot x = m) (d : Nat) : ∀ i : Nat, i + d = c → Ev (fun k => laws_FnEvenRule.l0 k (c : Int) r m (i : Int)) true := by
  have hc1 := hk.c1; have hlen := hk.len
  have hm1 : -1 ≤ m := by
    have h0 : rowR r 0 ∈ r := rowR_range r 0 (by omega) (by omega)
    have hr0 := hk.rows 0 (by omega)
    have e := hm _ h0
    have hc3 := hk.c3
    have g := fun j hj => hk.ent 0 j (by omega) hj
    simp only [Int.natCast_zero] at g hr0
    rw [← e]
    generalize rowR r 0 = x at g hr0
    have : c = 1 ∨ c = 2 ∨ c = 3 := by omega
    rcases this with rfl | rfl | rfl
    · match x, hr0 with
      | [a], _ => have := g 0 (by omega); simp [rd] at this; simp [tot]; omega
    · match x, hr0 with
      | [a, b], _ => have := g 0 (by omega); have := g 1 (by omega); simp [rd] at *; simp [tot]; omega
    · match x, hr0 with
      | [a, b, d], _ => have := g 0 (by omega); have := g 1 (by omega); have := g 2 (by omega); simp [rd] at *; simp [tot]; omega
  induction d with
  | zero =>
    intro i hi
    refine Ev.step (fun _ => rfl) ?_
    exact ev_neg (by omega) (ev_pos hm1 (Ev.bind alive_ev (Ev.now _)))
  | succ d ih =>
    intro i hi
    refine Ev.step (fun _ => rfl) ?_
    exact ev_pos (by omega) (FnEvenRule_inner c r hk m i (by omega) (hm _ (rowR_mem r i (by omega))) (ih (i + 1) (by omega)) c 0 (by omega))
theorem FnEvenRule : laws_FnEvenRule.Pure := by
  intro l hl0 _ hb
  refine Ev.rounds (g := fun k => laws_FnEvenRule.f k l) ?_
  unfold laws_FnEvenRule.f
  by_cases h : (l.length : Int) > 1048576
  · exact ev_pos h (Ev.now _)
  refine ev_neg h ?_
  obtain ⟨c, r, hd, hr, hrr⟩ := DrawEvenRule_ev l hb
  have hrr' : ∀ x ∈ r, x.length ≤ 1000000000 := fun x hx => by have := hrr x hx; omega
  refine Ev.bind hd (Ev.bind (implEvenRule_ev c r (by omega) hrr') (Ev.bind (specEvenRule_ev c r (by omega) hrr') (ev_pos rfl ?_)))
  refine Ev.step (fun _ => by rw [laws_FnEvenRule.j0]) ?_
  refine ev_neg (by simp) ?_
  by_cases he : ruleB c r = true ∧ (∀ x ∈ r, tot x = tot (rowR r 0))
  · have e : evenP c r = (tot (rowR r 0), true) := by unfold evenP; rw [if_pos he]
    rw [e]
    obtain ⟨hk, hc1, hc3⟩ := ruleB_known he.1
    obtain ⟨m, rfl⟩ := Int.eq_ofNat_of_zero_le (show 0 ≤ c by omega)
    rw [Int.toNat_natCast] at hk
    exact ev_pos rfl (FnEvenRule_loop m r hk _ he.2 m 0 (by omega))
  · have e : evenP c r = (0, false) := by unfold evenP; rw [if_neg he]
    rw [e]
    exact ev_neg (by simp) (ev_pos rfl (Ev.bind alive_ev (Ev.now _)))

end Go.Proofs.Ytlakokejoifamaa.Pure
