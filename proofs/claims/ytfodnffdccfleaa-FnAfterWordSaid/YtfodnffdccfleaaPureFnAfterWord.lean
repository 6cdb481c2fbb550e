/- The law FnAfterWord: for every input the printed function of the law answers true. No condition. -/
import Derived.Test.YtfodnffdccfleaaPFnAfterWordx7
import Derived.Test.YtfodnffdccfleaaPlain
set_option linter.unusedVariables false
set_option linter.unusedSimpArgs false
namespace Go.Proofs.Ytfodnffdccfleaa.Pure
open Go.RowKit Go.Proofs.Ytfodnffdccfleaa.PFnAfterWord Go.Proofs.YtfodnffdccfleaaW.PrintWords Go.Proofs.YtfodnffdccfleaaW.PrintLast Go.Proofs.YtfodnffdccfleaaW.PrintMore Go.Proofs.Ytfodnffdccfleaa.Plain

theorem l1In_f (x a b : Int) : spec_l1In.f x a b = some (inB x a b) := by
  unfold spec_l1In.f inB
  by_cases h : x ≥ a
  · rw [if_pos h]; congr 1; simp [h]
  · rw [if_neg h]; congr 1; simp; omega

theorem coloursOk_f (x : Int) : impl_coloursOk.f x = some (colB x) := by
  unfold impl_coloursOk.f colB
  by_cases h : x ≥ 1
  · rw [if_pos h]; congr 1; simp [h]
  · rw [if_neg h]; congr 1; simp; omega

theorem implUrnOk_loop (l : List Int) (hl : l.length ≤ 1000000000) (d : Nat) : ∀ i : Nat, i + d = l.length → Ev (fun k => impl_UrnOk.l0 k l l (l.length : Int) (i : Int)) ((l.drop i).all urnE && colB l.length) := by
  induction d with
  | zero =>
    intro i hi
    refine Ev.step (fun _ => rfl) ?_
    refine ev_neg (by omega) ?_
    rw [coloursOk_f, List.drop_eq_nil_of_le (by omega)]
    exact Ev.now _
  | succ d ih =>
    intro i hi
    refine Ev.step (fun _ => rfl) ?_
    refine ev_pos (by omega) (ev_pos (by omega) (ev_pos (by omega) ?_))
    rw [drop_rd l i (by omega), List.all_cons]
    by_cases h1 : rd l (i : Int) < 0
    · refine ev_pos h1 (ev_eq (Ev.now _) ?_)
      rw [show urnE (rd l (i : Int)) = false from by simp [urnE]; omega]; rfl
    · refine ev_neg h1 ?_
      by_cases h2 : rd l (i : Int) > 40
      · refine ev_pos h2 (ev_eq (Ev.now _) ?_)
        rw [show urnE (rd l (i : Int)) = false from by simp [urnE]; omega]; rfl
      · refine ev_neg h2 ?_
        rw [w64n i (by omega), show urnE (rd l (i : Int)) = true from by simp [urnE]; omega, Bool.true_and]
        exact ih (i + 1) (by omega)
theorem implUrnOk_ev (l : List Int) (hl : l.length ≤ 1000000000) : Ev (fun k => impl_UrnOk.f k l) (urnB l) := by
  unfold impl_UrnOk.f
  exact implUrnOk_loop l hl l.length 0 (by omega)

theorem specUrnOk_loop (l : List Int) (hl : l.length ≤ 1000000000) (d : Nat) : ∀ i : Nat, i + d = l.length → Ev (fun k => spec_UrnOk.l0 k l (i : Int)) ((l.drop i).all urnE && colB l.length) := by
  induction d with
  | zero =>
    intro i hi
    refine Ev.step (fun _ => rfl) ?_
    refine ev_neg (by omega) ?_
    rw [l1In_f, List.drop_eq_nil_of_le (by omega)]
    exact Ev.now _
  | succ d ih =>
    intro i hi
    refine Ev.step (fun _ => rfl) ?_
    refine ev_pos (by omega) (ev_pos (by omega) ?_)
    rw [drop_rd l i (by omega), List.all_cons, l1In_f, show inB (rd l (i : Int)) 0 40 = urnE (rd l (i : Int)) from rfl]
    cases h : urnE (rd l (i : Int)) with
    | false => exact Ev.now _
    | true =>
      simp only [Option.bind_some, if_true, Bool.true_and]
      rw [w64n i (by omega)]
      exact ih (i + 1) (by omega)
theorem specUrnOk_ev (l : List Int) (hl : l.length ≤ 1000000000) : Ev (fun k => spec_UrnOk.f k l) (urnB l) := by
  unfold spec_UrnOk.f
  exact specUrnOk_loop l hl l.length 0 (by omega)

theorem implStartOk_loop (l : List Int) (hl : l.length ≤ 1000000000) (d : Nat) : ∀ i : Nat, i + d = l.length → Ev (fun k => impl_StartOk.l0 k l l (l.length : Int) (i : Int)) ((l.drop i).all (fun x => decide (x ≤ 10)) && urnB l) := by
  induction d with
  | zero =>
    intro i hi
    refine Ev.step (fun _ => rfl) ?_
    refine ev_neg (by omega) ?_
    rw [List.drop_eq_nil_of_le (by omega)]
    exact Ev.bind (implUrnOk_ev l hl) (Ev.now _)
  | succ d ih =>
    intro i hi
    refine Ev.step (fun _ => rfl) ?_
    refine ev_pos (by omega) (ev_pos (by omega) (ev_pos (by omega) ?_))
    rw [drop_rd l i (by omega), List.all_cons]
    by_cases h1 : rd l (i : Int) > 10
    · refine ev_pos h1 (ev_eq (Ev.now _) ?_)
      rw [show decide (rd l (i : Int) ≤ 10) = false from by simp; omega]; rfl
    · refine ev_neg h1 ?_
      rw [w64n i (by omega), show decide (rd l (i : Int) ≤ 10) = true from by simp; omega, Bool.true_and]
      exact ih (i + 1) (by omega)
theorem implStartOk_ev (l : List Int) (hl : l.length ≤ 1000000000) : Ev (fun k => impl_StartOk.f k l) (startB l) := by
  unfold impl_StartOk.f
  exact implStartOk_loop l hl l.length 0 (by omega)

theorem specStartOk_loop (l : List Int) (hl : l.length ≤ 1000000000) (d : Nat) : ∀ i : Nat, i + d = l.length → Ev (fun k => spec_StartOk.l0 k l (i : Int)) ((l.drop i).all (fun x => decide (x ≤ 10)) && urnB l) := by
  induction d with
  | zero =>
    intro i hi
    refine Ev.step (fun _ => rfl) ?_
    refine ev_neg (by omega) ?_
    rw [List.drop_eq_nil_of_le (by omega)]
    exact Ev.bind (specUrnOk_ev l hl) (Ev.now _)
  | succ d ih =>
    intro i hi
    refine Ev.step (fun _ => rfl) ?_
    refine ev_pos (by omega) (ev_pos (by omega) ?_)
    rw [drop_rd l i (by omega), List.all_cons]
    by_cases h1 : rd l (i : Int) > 10
    · refine ev_pos h1 (ev_eq (Ev.now _) ?_)
      rw [show decide (rd l (i : Int) ≤ 10) = false from by simp; omega]; rfl
    · refine ev_neg h1 ?_
      rw [w64n i (by omega), show decide (rd l (i : Int) ≤ 10) = true from by simp; omega, Bool.true_and]
      exact ih (i + 1) (by omega)
theorem specStartOk_ev (l : List Int) (hl : l.length ≤ 1000000000) : Ev (fun k => spec_StartOk.f k l) (startB l) := by
  unfold spec_StartOk.f
  exact specStartOk_loop l hl l.length 0 (by omega)

theorem implWordOk_loop (c : Int) (l : List Int) (hl : l.length ≤ 1000000000) (d : Nat) : ∀ i : Nat, i + d = l.length → Ev (fun k => impl_WordOk.l0 k c l l (l.length : Int) (i : Int)) ((l.drop i).all (fun x => decide (0 ≤ x ∧ x < c)) && (colB c && decide ((l.length : Int) ≤ 6))) := by
  induction d with
  | zero =>
    intro i hi
    refine Ev.step (fun _ => rfl) ?_
    refine ev_neg (by omega) ?_
    rw [coloursOk_f, List.drop_eq_nil_of_le (by omega)]
    cases h : colB c <;> exact Ev.now _
  | succ d ih =>
    intro i hi
    refine Ev.step (fun _ => rfl) ?_
    refine ev_pos (by omega) (ev_pos (by omega) (ev_pos (by omega) ?_))
    rw [drop_rd l i (by omega), List.all_cons]
    by_cases h1 : rd l (i : Int) < 0
    · refine ev_pos h1 (ev_eq (Ev.now _) ?_)
      rw [show decide (0 ≤ rd l (i : Int) ∧ rd l (i : Int) < c) = false from by simp; omega]; rfl
    · refine ev_neg h1 ?_
      by_cases h2 : rd l (i : Int) ≥ c
      · refine ev_pos h2 (ev_eq (Ev.now _) ?_)
        rw [show decide (0 ≤ rd l (i : Int) ∧ rd l (i : Int) < c) = false from by simp; omega]; rfl
      · refine ev_neg h2 ?_
        rw [w64n i (by omega), show decide (0 ≤ rd l (i : Int) ∧ rd l (i : Int) < c) = true from by simp; omega, Bool.true_and]
        exact ih (i + 1) (by omega)
theorem implWordOk_ev (c : Int) (l : List Int) (hl : l.length ≤ 1000000000) : Ev (fun k => impl_WordOk.f k c l) (wordB c l) := by
  unfold impl_WordOk.f
  exact implWordOk_loop c l hl l.length 0 (by omega)

theorem specWordOk_loop (c : Int) (l : List Int) (hl : l.length ≤ 1000000000) (d : Nat) : ∀ i : Nat, i + d = l.length → Ev (fun k => spec_WordOk.l0 k c l (i : Int)) ((l.drop i).all (fun x => decide (0 ≤ x ∧ x < c)) && (colB c && decide ((l.length : Int) ≤ 6))) := by
  induction d with
  | zero =>
    intro i hi
    refine Ev.step (fun _ => rfl) ?_
    refine ev_neg (by omega) ?_
    rw [l1In_f, List.drop_eq_nil_of_le (by omega), show inB c 1 3 = colB c from rfl]
    cases h : colB c <;> exact Ev.now _
  | succ d ih =>
    intro i hi
    refine Ev.step (fun _ => rfl) ?_
    refine ev_pos (by omega) (ev_pos (by omega) ?_)
    rw [drop_rd l i (by omega), List.all_cons]
    by_cases h1 : rd l (i : Int) < 0
    · refine ev_pos h1 (ev_eq (Ev.now _) ?_)
      rw [show decide (0 ≤ rd l (i : Int) ∧ rd l (i : Int) < c) = false from by simp; omega]; rfl
    · refine ev_neg h1 ?_
      by_cases h2 : rd l (i : Int) ≥ c
      · refine ev_pos h2 (ev_eq (Ev.now _) ?_)
        rw [show decide (0 ≤ rd l (i : Int) ∧ rd l (i : Int) < c) = false from by simp; omega]; rfl
      · refine ev_neg h2 ?_
        rw [w64n i (by omega), show decide (0 ≤ rd l (i : Int) ∧ rd l (i : Int) < c) = true from by simp; omega, Bool.true_and]
        exact ih (i + 1) (by omega)
theorem specWordOk_ev (c : Int) (l : List Int) (hl : l.length ≤ 1000000000) : Ev (fun k => spec_WordOk.f k c l) (wordB c l) := by
  unfold spec_WordOk.f
  exact specWordOk_loop c l hl l.length 0 (by omega)

theorem implSum_loop (l : List Int) (hl : l.length ≤ 1000) (B : Int) (hB : 0 ≤ B) (hB2 : B ≤ 1000000000) (hb : ∀ x ∈ l, -B ≤ x ∧ x ≤ B) (d : Nat) : ∀ i : Nat, i + d = l.length → Ev (fun k => impl_sum.l0 k (tot (l.take i)) l (l.length : Int) (i : Int)) (tot l) := by
  induction d with
  | zero =>
    intro i hi
    refine Ev.step (fun _ => rfl) ?_
    refine ev_neg (by omega) (ev_eq (Ev.now _) ?_)
    rw [List.take_of_length_le (by omega)]
  | succ d ih =>
    intro i hi
    refine Ev.step (fun _ => rfl) ?_
    refine ev_pos (by omega) (ev_pos (by omega) (ev_pos (by omega) ?_))
    have h1 := tot_abs (l.take i) B hB (fun x hx => hb x (List.mem_of_mem_take hx))
    have h2 := hb _ (rd_mem l i (by omega))
    have h3 : ((l.take i).length : Int) * B ≤ 1000 * 1000000000 := (mulb (by omega) (by rw [List.length_take]; omega) hB hB2).2
    have h4 : tot (l.take i) + rd l (i : Int) = tot (l.take (i + 1)) := by rw [take_rd l i (by omega), tot_append]; simp [tot]
    rw [w64n i (by omega), w64 (by omega) (by omega), h4]
    exact ih (i + 1) (by omega)
theorem implSum_ev (l : List Int) (hl : l.length ≤ 1000) (hb : ∀ x ∈ l, -1000000000 ≤ x ∧ x ≤ 1000000000) : Ev (fun k => impl_sum.f k l) (tot l) := by
  unfold impl_sum.f
  exact implSum_loop l hl 1000000000 (by omega) (by omega) hb l.length 0 (by omega)

theorem implTotalOf_ev (l : List Int) (hl : l.length ≤ 1000000000) : Ev (fun k => impl_TotalOf.f k l) (if urnB l = true then tot l else -1) := by
  unfold impl_TotalOf.f
  refine Ev.bind (implUrnOk_ev l hl) ?_
  by_cases h : urnB l = true
  · rw [if_pos h]
    obtain ⟨h1, h2, h3⟩ := urnB_bounds h
    exact ev_pos h (Ev.bind (implSum_ev l (by omega) (fun x hx => by have := h1 x hx; omega)) (Ev.now _))
  · rw [if_neg h]
    exact ev_neg h (Ev.now _)

theorem l20Open_f (l : List Int) (hb : ∀ x ∈ l, (Lit.int .u8 x).wf = true) : ∃ b, spec_l20Open.f l = some (b, 0) ∧ OkB b := by
  unfold spec_l20Open.f
  by_cases h : (l.length : Int) > 2000
  · rw [if_pos h, if_pos (by omega)]
    exact ⟨_, rfl, fun x hx => u8_wf (hb x (List.mem_of_mem_take hx)), by rw [List.length_take]; omega⟩
  · rw [if_neg h]
    exact ⟨_, rfl, fun x hx => u8_wf (hb x hx), by omega⟩

theorem pick_ev {b : List Int} (hb : OkB b) {p : Int} (hp0 : 0 ≤ p) (hp : p ≤ 1000000) (n : Int) (hn0 : 1 ≤ n) (hn : n ≤ 1000000) : ∃ v, Ev (fun k => spec_l20Rd_pick.f k b p n) (v, p + 1) ∧ 0 ≤ v ∧ v < n := by
  obtain ⟨hb1, hb2⟩ := hb
  unfold spec_l20Rd_pick.f
  have e1 : wrap64 (p + 1) = p + 1 := w64 (by omega) (by omega)
  by_cases h0 : b.length = 0
  · refine ⟨0, ev_neg (by omega) ?_, by omega, by omega⟩
    rw [show ((b.length : Int) == 0) = true from by simp [h0], e1]
    exact Ev.step (fun _ => rfl) (Ev.now _)
  · have hz : ((b.length : Int) == 0) = false := by simp; intro hh; exact h0 (by simp [hh])
    have hat : ∀ i : Int, 0 ≤ i → i < b.length → 0 ≤ rd b i ∧ rd b i ≤ 255 := fun i h1 h2 => hb1 _ (rd_range b i h1 h2)
    have e2 : wrap64 (p + 1 - 1) = p := by rw [show p + 1 - 1 = p by omega]; exact w64 (by omega) (by omega)
    by_cases h1 : p < (b.length : Int)
    · have hr := hat p hp0 h1
      have ht := tmod_range (rd b p) n hr.1 (by omega)
      refine ⟨Int.tmod (rd b p) n, ev_neg (by omega) ?_, ht.1, ht.2⟩
      rw [hz, e1]
      refine Ev.step (fun _ => by rw [spec_l20Rd_pick.j0]) (ev_neg (by simp) ?_)
      rw [e2, w64 (x := rd b p) (by omega) (by omega)]
      exact ev_pos h1 (ev_pos hp0 (ev_neg (by omega) (Ev.now _)))
    · have m1 := tmod_range p (b.length : Int) hp0 (by omega)
      have e3 : wrap64 (p * 7) = p * 7 := w64 (by omega) (by omega)
      have e4 : wrap64 (p * 7 + 3) = p * 7 + 3 := w64 (by omega) (by omega)
      have m2 := tmod_range (p * 7 + 3) (b.length : Int) (by omega) (by omega)
      have r1 := hat _ m1.1 m1.2
      have r2 := hat _ m2.1 m2.2
      have d1 := tdiv_range p (b.length : Int) hp0 (by omega)
      have key : ∀ x y z : Int, 0 ≤ x → x ≤ 255 → 0 ≤ y → y ≤ 255 → 0 ≤ z → z ≤ 1000000 →
          wrap64 (wrap64 (wrap64 (wrap64 (wrap64 x * 131) + wrap64 (wrap64 y * 1117)) + wrap64 (p * 29)) + wrap64 (wrap64 z * 53)) = x * 131 + y * 1117 + p * 29 + z * 53 := by
        intro x y z _ _ _ _ _ _
        rw [w64 (x := x) (by omega) (by omega), w64 (x := y) (by omega) (by omega), w64 (x := z) (by omega) (by omega), w64 (x := x * 131) (by omega) (by omega), w64 (x := y * 1117) (by omega) (by omega), w64 (x := p * 29) (by omega) (by omega), w64 (x := z * 53) (by omega) (by omega),
          w64 (x := x * 131 + y * 1117) (by omega) (by omega), w64 (x := x * 131 + y * 1117 + p * 29) (by omega) (by omega), w64 (by omega) (by omega)]
      obtain ⟨X, hX, hX0, hX1⟩ : ∃ X, wrap64 (wrap64 (wrap64 (wrap64 (wrap64 (rd b (Int.tmod p b.length)) * 131) + wrap64 (wrap64 (rd b (Int.tmod (p * 7 + 3) b.length)) * 1117)) + wrap64 (p * 29)) + wrap64 (wrap64 (Int.tdiv p b.length) * 53)) = X ∧ 0 ≤ X ∧ X ≤ 100000000 :=
        ⟨_, key _ _ _ r1.1 r1.2 r2.1 r2.2 d1.1 (by omega), by omega, by omega⟩
      have d2 := tdiv_range X 64 hX0 (by omega)
      have hx := xor_nonneg X (Int.tdiv X 64) hX0 (by omega) d2.1 (by omega)
      have ht := tmod_range _ n hx (by omega)
      refine ⟨Int.tmod (Go.bits .xor .i64 X (Int.tdiv X 64)) n, ev_neg (by omega) ?_, ht.1, ht.2⟩
      rw [hz, e1]
      refine Ev.step (fun _ => by rw [spec_l20Rd_pick.j0]) (ev_neg (by simp) ?_)
      rw [e2, e3, e4, hX, w64 (x := Int.tdiv X 64) (by omega) (by omega)]
      exact ev_neg h1 (ev_neg (by omega) (ev_pos m1.1 (ev_pos m1.2 (ev_pos m2.1 (ev_pos m2.2 (ev_neg (by omega) (Ev.now _)))))))

theorem odd_ev {b : List Int} (hb : OkB b) {p : Int} (hp0 : 0 ≤ p) (hp : p ≤ 1000000) (n : Int) (hn0 : 1 ≤ n) (hn : n ≤ 1000000) : ∃ v, Ev (fun k => spec_l20Rd_odd.f k b p n) (v, p + 1) := by
  obtain ⟨v, hv, _, _⟩ := pick_ev hb hp0 hp n hn0 hn
  unfold spec_l20Rd_odd.f
  exact ⟨_, ev_pos (by omega) (Ev.bind hv (Ev.now _))⟩

theorem l20Urn_loop {b : List Int} (hb : OkB b) (n : Int) (hn0 : 1 ≤ n) (hn : n ≤ 1000000) (d : Nat) : ∀ (l : List Int) (p : Int), 0 ≤ p → p + d ≤ 900000 → d ≤ 3 → 1 ≤ l.length + d → l.length + d ≤ 3 → (∀ x ∈ l, 0 ≤ x ∧ x ≤ 5) →
    ∃ u p', Ev (fun k => spec_l20Urn.l0 k n l (d : Int) b p) (u, p') ∧ p ≤ p' ∧ p' ≤ p + d + 5 ∧ u.length ≤ 4 ∧ ∀ x ∈ u, -1 ≤ x ∧ x ≤ 41 := by
  induction d with
  | zero =>
    intro l p hp0 hp _ hl1 hl2 hx
    obtain ⟨v, hv⟩ := odd_ev hb hp0 (by omega) n hn0 hn
    cases v with
    | false =>
      exact ⟨l, p + 1, Ev.step (fun _ => rfl) (ev_neg (by omega) (Ev.bind hv (Ev.now _))), by omega, by omega, by omega, fun x h => by have := hx x h; omega⟩
    | true =>
      obtain ⟨w, hw, hw0, hw1⟩ := pick_ev hb (p := p + 1) (by omega) (by omega) 3 (by omega) (by omega)
      by_cases h0 : w = 0
      · exact ⟨[], p + 1 + 1, Ev.step (fun _ => rfl) (ev_neg (by omega) (Ev.bind hv (Ev.bind hw (ev_pos h0 (Ev.now _))))), by omega, by omega, by simp, fun x h => by simp at h⟩
      · by_cases h1 : w = 1
        · obtain ⟨y, hy, hy0, hy1⟩ := pick_ev hb (p := p + 1 + 1) (by omega) (by omega) 2 (by omega) (by omega)
          refine ⟨l.set 0 (rd [-1, 41] y), p + 1 + 1 + 1, Ev.step (fun _ => rfl) (ev_neg (by omega) (Ev.bind hv (Ev.bind hw (ev_neg h0 (ev_pos h1 (Ev.bind (Ev.now _) (Ev.bind hy (ev_pos hy0 (ev_pos (by simpa using hy1) (ev_pos (by omega) (Ev.now _))))))))))), by omega, by omega, by rw [List.length_set]; omega, ?_⟩
          intro x h
          rcases List.mem_or_eq_of_mem_set h with h | rfl
          · have := hx x h; omega
          · have : y = 0 ∨ y = 1 := by omega
            rcases this with rfl | rfl <;> simp [rd]
        · exact ⟨[1, 1, 1, 1], p + 1 + 1, Ev.step (fun _ => rfl) (ev_neg (by omega) (Ev.bind hv (Ev.bind hw (ev_neg h0 (ev_neg h1 (Ev.now _)))))), by omega, by omega, by simp, fun x h => by simp at h; omega⟩
  | succ d ih =>
    intro l p hp0 hp hd hl1 hl2 hx
    obtain ⟨v, hv, hv0, hv1⟩ := pick_ev hb hp0 (by omega) 6 (by omega) (by omega)
    obtain ⟨u, p', hu, h1, h2, h3, h4⟩ := ih (l ++ [v]) (p + 1) (by omega) (by omega) (by omega) (by simp; omega) (by simp; omega) (fun x h => by
      rcases List.mem_append.1 h with h | h
      · exact hx x h
      · have : x = v := by simpa using h
        omega)
    refine ⟨u, p', Ev.step (fun _ => rfl) (ev_pos (by omega) (Ev.bind hv (ev_pos (by omega) ?_))), by omega, by omega, h3, h4⟩
    rw [w64 (by omega) (by omega), show ((d + 1 : Nat) : Int) - 1 = (d : Int) from by omega]
    exact hu
theorem l20Urn_ev {b : List Int} (hb : OkB b) {p : Int} (hp0 : 0 ≤ p) (hp : p ≤ 800000) (n : Int) (hn0 : 1 ≤ n) (hn : n ≤ 1000000) :
    ∃ u p', Ev (fun k => spec_l20Urn.f k b p n) (u, p') ∧ p ≤ p' ∧ p' ≤ p + 11 ∧ u.length ≤ 4 ∧ ∀ x ∈ u, -1 ≤ x ∧ x ≤ 41 := by
  obtain ⟨v, hv, hv0, hv1⟩ := pick_ev hb hp0 (by omega) 3 (by omega) (by omega)
  obtain ⟨m, rfl⟩ := Int.eq_ofNat_of_zero_le hv0
  obtain ⟨u, p', hu, h1, h2, h3, h4⟩ := l20Urn_loop hb n hn0 hn (1 + m) [] (p + 1) (by omega) (by omega) (by omega) (by simp) (by simp; omega) (by simp)
  refine ⟨u, p', ?_, by omega, by omega, h3, h4⟩
  unfold spec_l20Urn.f
  refine Ev.bind hv ?_
  rw [w64 (by omega) (by omega), show (1 : Int) + (m : Int) = ((1 + m : Nat) : Int) from by omega]
  exact hu

theorem l20Word_loop {b : List Int} (hb : OkB b) (c n : Int) (hc : c ≤ 1000) (hn0 : 1 ≤ n) (hn : n ≤ 1000000) (d : Nat) : ∀ (l : List Int) (p : Int), 0 ≤ p → p + d ≤ 900000 → d ≤ 4 → l.length + d ≤ 4 → (∀ x ∈ l, 0 ≤ x ∧ x ≤ 1000) →
    ∃ u p', Ev (fun k => spec_l20Word.l0 k c n l (d : Int) b p) (u, p') ∧ p ≤ p' ∧ p' ≤ p + d + 5 ∧ u.length ≤ 7 ∧ ∀ x ∈ u, 0 ≤ x ∧ x ≤ 1000 := by
  induction d with
  | zero =>
    intro l p hp0 hp _ hl2 hx
    obtain ⟨v, hv⟩ := odd_ev hb hp0 (by omega) n hn0 hn
    cases v with
    | false =>
      exact ⟨l, p + 1, Ev.step (fun _ => rfl) (ev_neg (by omega) (Ev.bind hv (Ev.now _))), by omega, by omega, by omega, hx⟩
    | true =>
      obtain ⟨w, hw, hw0, hw1⟩ := pick_ev hb (p := p + 1) (by omega) (by omega) 2 (by omega) (by omega)
      by_cases h0 : w = 0
      · refine ⟨l ++ [3], p + 1 + 1, Ev.step (fun _ => rfl) (ev_neg (by omega) (Ev.bind hv (Ev.bind hw (ev_pos h0 (ev_pos (by omega) (Ev.now _)))))), by omega, by omega, by simp; omega, fun x h => ?_⟩
        rcases List.mem_append.1 h with h | h
        · exact hx x h
        · have : x = 3 := by simpa using h
          omega
      · exact ⟨[0, 0, 0, 0, 0, 0, 0], p + 1 + 1, Ev.step (fun _ => rfl) (ev_neg (by omega) (Ev.bind hv (Ev.bind hw (ev_neg h0 (Ev.now _))))), by omega, by omega, by simp, fun x h => by simp at h; omega⟩
  | succ d ih =>
    intro l p hp0 hp hd hl2 hx
    obtain ⟨v, hv, hv0, hv1⟩ := pick_ev hb hp0 (by omega) (mx c 1) (by unfold mx; split <;> omega) (by unfold mx; split <;> omega)
    have hv2 : v ≤ 1000 := by
      have : mx c 1 ≤ 1000 := by unfold mx; split <;> omega
      omega
    obtain ⟨u, p', hu, h1, h2, h3, h4⟩ := ih (l ++ [v]) (p + 1) (by omega) (by omega) (by omega) (by simp; omega) (fun x h => by
      rcases List.mem_append.1 h with h | h
      · exact hx x h
      · have : x = v := by simpa using h
        omega)
    refine ⟨u, p', Ev.step (fun _ => rfl) (ev_pos (by omega) (Ev.bind hv (ev_pos (by omega) ?_))), by omega, by omega, h3, h4⟩
    rw [w64 (by omega) (by omega), show ((d + 1 : Nat) : Int) - 1 = (d : Int) from by omega]
    exact hu
theorem l20Word_ev {b : List Int} (hb : OkB b) {p : Int} (hp0 : 0 ≤ p) (hp : p ≤ 800000) (c n : Int) (hc : c ≤ 1000) (hn0 : 1 ≤ n) (hn : n ≤ 1000000) :
    ∃ u p', Ev (fun k => spec_l20Word.f k b p c n) (u, p') ∧ p ≤ p' ∧ p' ≤ p + 11 ∧ u.length ≤ 7 ∧ ∀ x ∈ u, 0 ≤ x ∧ x ≤ 1000 := by
  obtain ⟨v, hv, hv0, hv1⟩ := pick_ev hb hp0 (by omega) 5 (by omega) (by omega)
  obtain ⟨m, rfl⟩ := Int.eq_ofNat_of_zero_le hv0
  obtain ⟨u, p', hu, h1, h2, h3, h4⟩ := l20Word_loop hb c n hc hn0 hn m [] (p + 1) (by omega) (by omega) (by omega) (by simp; omega) (by simp)
  refine ⟨u, p', ?_, by omega, by omega, h3, h4⟩
  unfold spec_l20Word.f
  exact Ev.bind hv hu

theorem alive_ev : Ev (fun k => laws_alive.f k) true := by
  unfold laws_alive.f
  exact Ev.bind (implUrnOk_ev [1] (by simp)) (ev_pos (by decide) (Ev.bind (implUrnOk_ev [] (by simp)) (Ev.now _)))

theorem rdL_eq (xs : List (List Int)) (i : Int) : rd_L2 xs i = rowR xs i := rfl

theorem implRuleOk_inner (c : Int) (rule : List (List Int)) (i : Nat) (rest : Bool) (row : List Int) (hl : row.length ≤ 1000000000) (H : Ev (fun k => impl_RuleOk.l0 k c rule rule (rule.length : Int) ((i + 1 : Nat) : Int)) rest) (hi : i ≤ 1000000000) (d : Nat) : ∀ j : Nat, j + d = row.length →
    Ev (fun k => impl_RuleOk.l1 k c rule (i : Int) rule (rule.length : Int) (i : Int) row (row.length : Int) (j : Int)) (entsB i j (row.drop j) && rest) := by
  induction d with
  | zero =>
    intro j hj
    refine Ev.step (fun _ => rfl) ?_
    refine ev_neg (by omega) ?_
    rw [List.drop_eq_nil_of_le (by omega), w64n i (by omega)]
    exact ev_eq H (by simp [entsB])
  | succ d ih =>
    intro j hj
    refine Ev.step (fun _ => rfl) ?_
    refine ev_pos (by omega) (ev_pos (by omega) (ev_pos (by omega) ?_))
    rw [drop_rd row j (by omega), entsB]
    have no : entB i j (rd row (j : Int)) = false → (entB i j (rd row (j : Int)) && entsB i (j + 1) (row.drop (j + 1)) && rest) = false := fun h => by rw [h]; rfl
    by_cases h1 : rd row (j : Int) > 3
    · refine ev_pos h1 (ev_eq (Ev.now _) ?_)
      rw [no (by simp [entB]; omega)]
    refine ev_neg h1 ?_
    by_cases h2 : rd row (j : Int) < -1
    · refine ev_pos h2 (ev_eq (Ev.now _) ?_)
      rw [no (by simp [entB]; omega)]
    refine ev_neg h2 ?_
    have go : entB i j (rd row (j : Int)) = true → Ev (fun k => impl_RuleOk.l1 k c rule (i : Int) rule (rule.length : Int) (i : Int) row (row.length : Int) (wrap64 ((j : Int) + 1))) (entB i j (rd row (j : Int)) && entsB i (j + 1) (row.drop (j + 1)) && rest) := fun h => by
      rw [h, Bool.true_and, w64n j (by omega)]
      exact ih (j + 1) (by omega)
    by_cases h3 : rd row (j : Int) = -1
    · refine ev_pos h3 ?_
      by_cases h4 : (i : Int) = (j : Int)
      · exact ev_pos h4 (go (by simp [entB]; omega))
      · refine ev_neg h4 (ev_eq (Ev.now _) ?_)
        rw [no (by simp [entB, h3, h4])]
    · exact ev_neg h3 (go (by simp [entB]; omega))
theorem implRuleOk_loop (c : Int) (rule : List (List Int)) (hl : rule.length ≤ 100000000) (hr : ∀ r ∈ rule, r.length ≤ 1000000000) (d : Nat) : ∀ i : Nat, i + d = rule.length →
    Ev (fun k => impl_RuleOk.l0 k c rule rule (rule.length : Int) (i : Int)) (rowsB c i (rule.drop i) && (colB c && decide ((rule.length : Int) = c))) := by
  induction d with
  | zero =>
    intro i hi
    refine Ev.step (fun _ => rfl) ?_
    refine ev_neg (by omega) ?_
    rw [coloursOk_f, List.drop_eq_nil_of_le (by omega)]
    cases h : colB c
    · exact Ev.now _
    · exact ev_eq (Ev.now _) (by simp [rowsB]; rfl)
  | succ d ih =>
    intro i hi
    refine Ev.step (fun _ => rfl) ?_
    refine ev_pos (by omega) (ev_pos (by omega) (ev_pos (by omega) ?_))
    rw [rdL_eq, drop_rowR rule i (by omega), rowsB, rowB]
    by_cases h : ((rowR rule (i : Int)).length : Int) = c
    · refine ev_pos h ?_
      have := implRuleOk_inner c rule i _ (rowR rule (i : Int)) (hr _ (rowR_mem rule i (by omega))) (ih (i + 1) (by omega)) (by omega) (rowR rule (i : Int)).length 0 (by omega)
      refine ev_eq this ?_
      simp [h, Bool.and_assoc]
    · refine ev_neg h (ev_eq (Ev.now _) ?_)
      simp [h]
theorem implRuleOk_ev (c : Int) (rule : List (List Int)) (hl : rule.length ≤ 100000000) (hr : ∀ r ∈ rule, r.length ≤ 1000000000) : Ev (fun k => impl_RuleOk.f k c rule) (ruleB c rule) := by
  unfold impl_RuleOk.f
  exact implRuleOk_loop c rule hl hr rule.length 0 (by omega)

theorem specRuleOk_inner (c : Int) (rule : List (List Int)) (i : Nat) (rest : Bool) (hi : i < rule.length) (hl : rule.length ≤ 100000000) (hl2 : (rowR rule i).length ≤ 1000000000) (hc : ((rowR rule i).length : Int) = c) (H : Ev (fun k => spec_RuleOk.l0 k c rule ((i + 1 : Nat) : Int)) rest) (d : Nat) : ∀ j : Nat, j + d = (rowR rule i).length →
    Ev (fun k => spec_RuleOk.l1 k c rule (i : Int) (j : Int)) (entsB i j ((rowR rule i).drop j) && rest) := by
  induction d with
  | zero =>
    intro j hj
    refine Ev.step (fun _ => rfl) ?_
    refine ev_neg (by omega) ?_
    rw [List.drop_eq_nil_of_le (by omega), w64n i (by omega)]
    exact ev_eq H (by simp [entsB])
  | succ d ih =>
    intro j hj
    refine Ev.step (fun _ => rfl) ?_
    refine ev_pos (by omega) (ev_pos (by omega) (ev_pos (by omega) (ev_pos (by omega) ?_)))
    refine ev_pos (show (j : Int) < ((rowR rule i).length : Int) by omega) ?_
    rw [drop_rd _ j (by omega), entsB, rdL_eq, l1In_f, w64n j (by omega)]
    have no : entB i j (rd (rowR rule i) (j : Int)) = false → (entB i j (rd (rowR rule i) (j : Int)) && entsB i (j + 1) ((rowR rule i).drop (j + 1)) && rest) = false := fun h => by rw [h]; rfl
    have go : entB i j (rd (rowR rule i) (j : Int)) = true → Ev (fun k => spec_RuleOk.l1 k c rule (i : Int) ((j + 1 : Nat) : Int)) (entB i j (rd (rowR rule i) (j : Int)) && entsB i (j + 1) ((rowR rule i).drop (j + 1)) && rest) := fun h => by
      rw [h, Bool.true_and]
      exact ih (j + 1) (by omega)
    refine Ev.bind (Ev.now _) ?_
    by_cases h1 : 0 ≤ rd (rowR rule i) (j : Int) ∧ rd (rowR rule i) (j : Int) ≤ 3
    · exact ev_pos (by simp [inB]; omega) (go (by simp [entB]; omega))
    refine ev_neg (by simp [inB]; omega) ?_
    by_cases h3 : rd (rowR rule i) (j : Int) = -1
    · refine ev_pos h3 ?_
      by_cases h4 : (j : Int) = (i : Int)
      · exact ev_pos h4 (go (by simp [entB]; omega))
      · refine ev_neg h4 (ev_eq (Ev.now _) ?_)
        rw [no (by simp [entB, h3]; omega)]
    · refine ev_neg h3 (ev_eq (Ev.now _) ?_)
      rw [no (by simp [entB]; omega)]
theorem specRuleOk_loop (c : Int) (rule : List (List Int)) (hl : rule.length ≤ 100000000) (hr : ∀ r ∈ rule, r.length ≤ 1000000000) (d : Nat) : ∀ i : Nat, i + d = rule.length →
    Ev (fun k => spec_RuleOk.l0 k c rule (i : Int)) (rowsB c i (rule.drop i) && (colB c && decide ((rule.length : Int) = c))) := by
  induction d with
  | zero =>
    intro i hi
    refine Ev.step (fun _ => rfl) ?_
    refine ev_neg (by omega) ?_
    rw [l1In_f, show inB c 1 3 = colB c from rfl, List.drop_eq_nil_of_le (by omega)]
    cases h : colB c
    · exact Ev.now _
    · exact ev_eq (Ev.now _) (by simp [rowsB]; rfl)
  | succ d ih =>
    intro i hi
    refine Ev.step (fun _ => rfl) ?_
    refine ev_pos (by omega) (ev_pos (by omega) ?_)
    rw [rdL_eq, drop_rowR rule i (by omega), rowsB, rowB]
    by_cases h : ((rowR rule (i : Int)).length : Int) = c
    · refine ev_pos h ?_
      have := specRuleOk_inner c rule i _ (by omega) hl (hr _ (rowR_mem rule i (by omega))) h (ih (i + 1) (by omega)) (rowR rule (i : Int)).length 0 (by omega)
      refine ev_eq this ?_
      simp [h, Bool.and_assoc]
    · refine ev_neg h (ev_eq (Ev.now _) ?_)
      simp [h]
theorem specRuleOk_ev (c : Int) (rule : List (List Int)) (hl : rule.length ≤ 100000000) (hr : ∀ r ∈ rule, r.length ≤ 1000000000) : Ev (fun k => spec_RuleOk.f k c rule) (ruleB c rule) := by
  unfold spec_RuleOk.f
  exact specRuleOk_loop c rule hl hr rule.length 0 (by omega)

theorem ruleAsked_ev (u : List Int) (rule : List (List Int)) (hu : u.length ≤ 1000000000) (hl : rule.length ≤ 100000000) (hr : ∀ r ∈ rule, r.length ≤ 1000000000) : Ev (fun k => impl_ruleAsked.f k u rule) (startB u && ruleB u.length rule) := by
  unfold impl_ruleAsked.f
  refine Ev.bind (implStartOk_ev u hu) ?_
  cases h : startB u with
  | false => exact ev_neg (by simp) (Ev.now _)
  | true => exact ev_pos rfl (Ev.bind (implRuleOk_ev _ rule hl hr) (Ev.now _))

theorem Clone_f (l : List Int) (hl : l.length ≤ 1000000000) : slices_Clone_int_int.f l = some l := by
  unfold slices_Clone_int_int.f
  simp only [Option.bind_some]
  rw [if_pos (by simp; omega)]; rfl

theorem implAdded_set (a b : List Int) (h : b.length = a.length) (i : Nat) (hi : i < b.length) : ((addL a b).take i ++ a.drop i).set i (rd ((addL a b).take i ++ a.drop i) (i : Int) + rd b (i : Int)) = (addL a b).take (i + 1) ++ a.drop (i + 1) := by
  have hl := addL_length a b h
  have e1 : ((addL a b).take i).length = i := by rw [List.length_take]; omega
  have e2 : rd ((addL a b).take i ++ a.drop i) (i : Int) = rd a (i : Int) := by
    rw [rd_nat _ i (by rw [List.length_append, e1, List.length_drop]; omega), rd_nat a i (by omega), List.getElem_append_right (by omega)]
    simp only [e1, Nat.sub_self, List.getElem_drop, Nat.add_zero]
  rw [e2, List.set_append_right _ _ (by omega), e1, Nat.sub_self, drop_rd a i (by omega), List.set_cons_zero, take_rd (addL a b) i (by omega), addL_rd a b i (by omega) h, List.append_assoc]
  rfl
theorem implAdded_loop (a b : List Int) (h : b.length = a.length) (hl : b.length ≤ 1000) (hb : ∀ i : Nat, i < b.length → -1000000 ≤ rd a i + rd b i ∧ rd a i + rd b i ≤ 1000000) (d : Nat) : ∀ i : Nat, i + d = b.length → Ev (fun k => impl_added.l0 k ((addL a b).take i ++ a.drop i) b (b.length : Int) (i : Int)) (addL a b) := by
  have hla := addL_length a b h
  induction d with
  | zero =>
    intro i hi
    refine Ev.step (fun _ => rfl) ?_
    refine ev_neg (by omega) (ev_eq (Ev.now _) ?_)
    rw [List.take_of_length_le (by omega), List.drop_eq_nil_of_le (by omega), List.append_nil]
  | succ d ih =>
    intro i hi
    refine Ev.step (fun _ => rfl) ?_
    refine ev_pos (by omega) (ev_pos (by omega) (ev_pos (by omega) (ev_pos (by rw [List.length_append, List.length_take, List.length_drop]; omega) ?_)))
    have e1 : ((addL a b).take i).length = i := by rw [List.length_take]; omega
    have e2 : rd ((addL a b).take i ++ a.drop i) (i : Int) = rd a (i : Int) := by
      rw [rd_nat _ i (by rw [List.length_append, e1, List.length_drop]; omega), rd_nat a i (by omega), List.getElem_append_right (by omega)]
      simp only [e1, Nat.sub_self, List.getElem_drop, Nat.add_zero]
    have hbi := hb i (by omega)
    rw [w64n i (by omega), w64 (by rw [e2]; omega) (by rw [e2]; omega), show ((i : Int)).toNat = i from by simp, implAdded_set a b h i (by omega)]
    exact ih (i + 1) (by omega)
theorem implAdded_ev (a b : List Int) (h : b.length = a.length) (hl : b.length ≤ 1000) (hb : ∀ i : Nat, i < b.length → -1000000 ≤ rd a i + rd b i ∧ rd a i + rd b i ≤ 1000000) : Ev (fun k => impl_added.f k a b) (addL a b) := by
  unfold impl_added.f
  rw [Clone_f a (by omega)]
  refine Ev.bind (Ev.now _) ?_
  have := implAdded_loop a b h hl hb b.length 0 (by omega)
  simpa using this

theorem implAfter_loop (c : Nat) (r : List (List Int)) (hr : RuleK c r) (u w : List Int) (hn : Near c 0 u) (hw : ∀ q ∈ w, 0 ≤ q ∧ q < (c : Int)) (hl : w.length ≤ 6) (d : Nat) : ∀ i : Nat, i + d = w.length → Ev (fun k => impl_after.l0 k r (afterL r u (w.take i)) w (w.length : Int) (i : Int)) (afterL r u w) := by
  induction d with
  | zero =>
    intro i hi
    refine Ev.step (fun _ => rfl) ?_
    refine ev_neg (by omega) (ev_eq (Ev.now _) ?_)
    rw [List.take_of_length_le (by omega)]
  | succ d ih =>
    intro i hi
    refine Ev.step (fun _ => rfl) ?_
    have hq := hw _ (rd_mem w i (by omega))
    refine ev_pos (by omega) (ev_pos (by omega) (ev_pos (by omega) (ev_pos hq.1 (ev_pos (by rw [hr.len]; exact hq.2) ?_))))
    have ha := near_after hr (w.take i) 0 u hn (fun q h => hw q (List.mem_of_mem_take h))
    have hb := near_step ha hr _ hq.1 hq.2
    have hlt : (w.take i).length ≤ 6 := by rw [List.length_take]; omega
    obtain ⟨m, hm⟩ := Int.eq_ofNat_of_zero_le hq.1
    rw [rdL_eq]
    refine Ev.bind (implAdded_ev _ _ (by rw [hm, hr.rows m (by omega), ha.1]) (by rw [hm, hr.rows m (by omega)]; have := hr.c3; omega) ?_) ?_
    · intro j hj
      rw [hm, hr.rows m (by omega)] at hj
      have h1 := ha.2 j hj; have h2 := hr.ent m j (by omega) hj
      rw [hm]; omega
    · rw [← afterL_snoc, ← take_rd w i (by omega), w64n i (by omega)]
      exact ih (i + 1) (by omega)
theorem implAfter_ev (c : Nat) (r : List (List Int)) (hr : RuleK c r) (u w : List Int) (hn : Near c 0 u) (hw : ∀ q ∈ w, 0 ≤ q ∧ q < (c : Int)) (hl : w.length ≤ 6) : Ev (fun k => impl_after.f k u r w) (afterL r u w) := by
  unfold impl_after.f
  rw [Clone_f u (by rw [hn.1]; have := hr.c3; omega)]
  exact Ev.bind (Ev.now _) (implAfter_loop c r hr u w hn hw hl w.length 0 (by omega))

theorem implruleWays_loop (c : Nat) (r : List (List Int)) (hr : RuleK c r) (u w : List Int) (hn : Near c 0 u) (hw : ∀ q ∈ w, 0 ≤ q ∧ q < (c : Int)) (hl : w.length ≤ 6) (d : Nat) : ∀ i : Nat, i + d = w.length → Ev (fun k => impl_ruleWays.l0 k u r w (waysL r u (w.take i)) w (w.length : Int) (i : Int)) (waysL r u w) := by
  induction d with
  | zero =>
    intro i hi
    refine Ev.step (fun _ => rfl) ?_
    refine ev_neg (by omega) (ev_eq (Ev.now _) ?_)
    rw [List.take_of_length_le (by omega)]
  | succ d ih =>
    intro i hi
    refine Ev.step (fun _ => rfl) ?_
    have hq := hw _ (rd_mem w i (by omega))
    have hwt : ∀ (n : Nat) (q : Int), q ∈ w.take n → 0 ≤ q ∧ q < (c : Int) := fun n q h => hw q (List.mem_of_mem_take h)
    have ha := near_after hr (w.take i) 0 u hn (hwt i)
    refine ev_pos (by omega) (ev_pos (by omega) (ev_pos (by omega) (ev_pos (by omega) ?_)))
    rw [show ((i : Int)).toNat = i from by simp]
    refine Ev.bind (implAfter_ev c r hr u (w.take i) hn (hwt i) (by rw [List.length_take]; omega)) ?_
    refine ev_pos hq.1 (ev_pos (by rw [ha.1]; exact hq.2) ?_)
    have e := waysL_snoc r (w.take i) u (rd w (i : Int))
    rw [← take_rd w i (by omega)] at e
    have hb := waysL_bound' hr (w.take (i + 1)) u hn (by rw [List.length_take]; omega) (hwt (i + 1))
    rw [← e, w64 (x := waysL r u (w.take (i + 1))) (by omega) (by omega), w64n i (by omega)]
    by_cases h0 : waysL r u (w.take (i + 1)) = 0
    · refine ev_pos h0 (ev_eq (Ev.now _) ?_)
      have := waysL_append r (w.take (i + 1)) (w.drop (i + 1)) u
      rw [List.take_append_drop, h0, Int.zero_mul] at this
      exact this.symm
    · exact ev_neg h0 (ih (i + 1) (by omega))
theorem implruleWays_ev (c : Nat) (r : List (List Int)) (hr : RuleK c r) (u w : List Int) (hn : Near c 0 u) (hw : ∀ q ∈ w, 0 ≤ q ∧ q < (c : Int)) (hl : w.length ≤ 6) : Ev (fun k => impl_ruleWays.f k u r w) (waysL r u w) := by
  unfold impl_ruleWays.f
  exact implruleWays_loop c r hr u w hn hw hl w.length 0 (by omega)

theorem implAfterWord_ev (u : List Int) (r : List (List Int)) (w : List Int) (hu : u.length ≤ 1000000000) (hl : r.length ≤ 100000000) (hr : ∀ x ∈ r, x.length ≤ 1000000000) (hw : w.length ≤ 1000000000) : Ev (fun k => impl_AfterWord.f k u r w) (afterP u r w) := by
  unfold impl_AfterWord.f afterP
  refine Ev.bind (ruleAsked_ev u r hu hl hr) ?_
  cases h1 : startB u with
  | false => rw [if_neg (fun h => by cases h.1)]; exact ev_neg (by simp) (Ev.now _)
  | true =>
  cases h2 : ruleB u.length r with
  | false => rw [if_neg (fun h => by cases h.2.1)]; exact ev_neg (by simp) (Ev.now _)
  | true =>
  refine ev_pos rfl (Ev.bind (implWordOk_ev _ w hw) ?_)
  cases h3 : wordB u.length w with
  | false => rw [if_neg (fun h => by cases h.2.2)]; exact ev_neg (by simp) (Ev.now _)
  | true =>
  rw [if_pos ⟨rfl, rfl, rfl⟩]
  obtain ⟨n1, n2, n3, n4, n5⟩ := near_start h1
  have hk := (ruleB_known h2).1
  rw [Int.toNat_natCast] at hk
  obtain ⟨w1, _, _, w2⟩ := wordB_bounds h3
  refine ev_pos rfl (Ev.bind (implruleWays_ev _ r hk u w n1 w1 w2) ?_)
  by_cases h4 : waysL r u w = 0
  · rw [if_pos h4]; exact ev_pos h4 (Ev.now _)
  · rw [if_neg h4]; exact ev_neg h4 (Ev.bind (implAfter_ev _ r hk u w n1 w1 w2) (Ev.now _))

theorem implRuleWays_ev (u : List Int) (r : List (List Int)) (w : List Int) (hu : u.length ≤ 1000000000) (hl : r.length ≤ 100000000) (hr : ∀ x ∈ r, x.length ≤ 1000000000) (hw : w.length ≤ 1000000000) : Ev (fun k => impl_RuleWays.f k u r w) (waysP u r w) := by
  unfold impl_RuleWays.f waysP
  refine Ev.bind (ruleAsked_ev u r hu hl hr) ?_
  cases h1 : startB u with
  | false => rw [if_neg (fun h => by cases h.1)]; exact ev_neg (by simp) (Ev.now _)
  | true =>
  cases h2 : ruleB u.length r with
  | false => rw [if_neg (fun h => by cases h.2.1)]; exact ev_neg (by simp) (Ev.now _)
  | true =>
  refine ev_pos rfl (Ev.bind (implWordOk_ev _ w hw) ?_)
  cases h3 : wordB u.length w with
  | false => rw [if_neg (fun h => by cases h.2.2)]; exact ev_neg (by simp) (Ev.now _)
  | true =>
  rw [if_pos ⟨rfl, rfl, rfl⟩]
  obtain ⟨n1, n2, n3, n4, n5⟩ := near_start h1
  have hk := (ruleB_known h2).1
  rw [Int.toNat_natCast] at hk
  obtain ⟨w1, _, _, w2⟩ := wordB_bounds h3
  exact ev_pos rfl (Ev.bind (implruleWays_ev _ r hk u w n1 w1 w2) (Ev.now _))

theorem l4After_loop (c : Nat) (r : List (List Int)) (hr : RuleK c r) (u : List Int) (n : Nat) (hn6 : n ≤ 1000) (hn : Near c n u) (q : Int) (h0 : 0 ≤ q) (h1 : q < (c : Int)) (d : Nat) : ∀ i : Nat, i + d = c → Ev (fun k => spec_l4After.l0 k u r q ((addL u (rowR r q)).take i) (i : Int)) (addL u (rowR r q)) := by
  obtain ⟨m, rfl⟩ := Int.eq_ofNat_of_zero_le h0
  have hrow := hr.rows m (by omega)
  have hla : (addL u (rowR r (m : Int))).length = c := by rw [addL_length _ _ (by rw [hrow, hn.1]), hn.1]
  have hc := hr.c3
  induction d with
  | zero =>
    intro i hi
    refine Ev.step (fun _ => rfl) ?_
    refine ev_neg (by rw [hn.1]; omega) (ev_eq (Ev.now _) ?_)
    rw [List.take_of_length_le (by omega)]
  | succ d ih =>
    intro i hi
    refine Ev.step (fun _ => rfl) ?_
    refine ev_pos (by rw [hn.1]; omega) (ev_pos (by omega) (ev_pos (by omega) (ev_pos (by rw [hr.len]; omega) (ev_pos (show (i : Int) < ((rowR r (m : Int)).length : Int) by rw [hrow]; omega) (ev_pos (by rw [List.length_take]; omega) ?_)))))
    have h2 := hn.2 i (by omega)
    have h3 := hr.ent m i (by omega) (by omega)
    have h4 := addL_rd u (rowR r (m : Int)) i (by rw [hn.1]; omega) (by rw [hrow, hn.1])
    rw [rdL_eq, w64n i (by omega), w64 (by omega) (by omega), ← h4, ← take_rd _ i (by omega)]
    exact ih (i + 1) (by omega)
theorem l4After_ev (c : Nat) (r : List (List Int)) (hr : RuleK c r) (u : List Int) (n : Nat) (hn6 : n ≤ 1000) (hn : Near c n u) (q : Int) (h0 : 0 ≤ q) (h1 : q < (c : Int)) : Ev (fun k => spec_l4After.f k u r q) (addL u (rowR r q)) := by
  unfold spec_l4After.f
  exact l4After_loop c r hr u n hn6 hn q h0 h1 c 0 (by omega)

theorem specAfterWord_loop (c : Nat) (r : List (List Int)) (hr : RuleK c r) (u w : List Int) (hn : Near c 0 u) (hw : ∀ q ∈ w, 0 ≤ q ∧ q < (c : Int)) (hl : w.length ≤ 6) (d : Nat) : ∀ i : Nat, i + d = w.length → waysL r u (w.take i) ≠ 0 →
    Ev (fun k => spec_AfterWord.l0 k r w (afterL r u (w.take i)) (i : Int)) (if waysL r u w = 0 then ([], false) else (afterL r u w, true)) := by
  induction d with
  | zero =>
    intro i hi h0
    refine Ev.step (fun _ => rfl) ?_
    rw [List.take_of_length_le (by omega)] at h0 ⊢
    rw [if_neg h0]
    exact ev_neg (by omega) (Ev.now _)
  | succ d ih =>
    intro i hi h0
    refine Ev.step (fun _ => rfl) ?_
    have hq := hw _ (rd_mem w i (by omega))
    have hwt : ∀ (n : Nat) (q : Int), q ∈ w.take n → 0 ≤ q ∧ q < (c : Int) := fun n q h => hw q (List.mem_of_mem_take h)
    have ha := near_after hr (w.take i) 0 u hn (hwt i)
    have e := waysL_snoc r (w.take i) u (rd w (i : Int))
    rw [← take_rd w i (by omega)] at e
    refine ev_pos (by omega) (ev_pos (by omega) (ev_pos hq.1 (ev_pos (by rw [ha.1]; exact hq.2) ?_)))
    by_cases h1 : rd (afterL r u (w.take i)) (rd w (i : Int)) < 1
    · refine ev_pos h1 (ev_eq (Ev.now _) ?_)
      rw [mx_l 0 _ (by omega), Int.mul_zero] at e
      have := waysL_append r (w.take (i + 1)) (w.drop (i + 1)) u
      rw [List.take_append_drop, e, Int.zero_mul] at this
      rw [if_pos this]
    · refine ev_neg h1 ?_
      refine Ev.bind (l4After_ev c r hr _ _ (by rw [List.length_take]; omega) ha _ hq.1 hq.2) ?_
      rw [← afterL_snoc, ← take_rd w i (by omega), w64n i (by omega)]
      refine ih (i + 1) (by omega) ?_
      rw [e, mx_r 0 _ (by omega)]
      exact Int.mul_ne_zero h0 (by omega)
theorem specAfterWord_ev (u : List Int) (r : List (List Int)) (w : List Int) (hu : u.length ≤ 1000000000) (hl : r.length ≤ 100000000) (hr : ∀ x ∈ r, x.length ≤ 1000000000) (hw : w.length ≤ 1000000000) : Ev (fun k => spec_AfterWord.f k u r w) (afterP u r w) := by
  have no : Ev (fun k => spec_AfterWord.j0 k u r w true) ([], false) := Ev.step (fun _ => rfl) (Ev.now _)
  unfold spec_AfterWord.f afterP
  refine Ev.bind (specStartOk_ev u hu) ?_
  cases h1 : startB u with
  | false => rw [if_neg (fun h => by cases h.1)]; exact ev_neg (by simp) no
  | true =>
  refine ev_pos rfl (Ev.bind (specRuleOk_ev _ r hl hr) ?_)
  cases h2 : ruleB u.length r with
  | false => rw [if_neg (fun h => by cases h.2.1)]; exact ev_neg (by simp) no
  | true =>
  refine ev_pos rfl (Ev.bind (specWordOk_ev _ w hw) ?_)
  cases h3 : wordB u.length w with
  | false => rw [if_neg (fun h => by cases h.2.2)]; exact no
  | true =>
  rw [if_pos ⟨rfl, rfl, rfl⟩]
  obtain ⟨n1, n2, n3, n4, n5⟩ := near_start h1
  have hk := (ruleB_known h2).1
  rw [Int.toNat_natCast] at hk
  obtain ⟨w1, _, _, w2⟩ := wordB_bounds h3
  refine Ev.step (fun _ => by rw [spec_AfterWord.j0]) ?_
  refine ev_neg (by simp) ?_
  refine Ev.bind (Ev.now _) ?_
  refine ev_pos (by simp; omega) ?_
  exact specAfterWord_loop _ r hk u w n1 w1 w2 w.length 0 (by omega) (by simp [waysL])

theorem implEvenRule_loop (c : Nat) (r : List (List Int)) (hr : RuleK c r) (d : Nat) : ∀ i : Nat, i + d = r.length → Ev (fun k => impl_EvenRule.l0 k r r (r.length : Int) (i : Int)) (if ∀ x ∈ r.drop i, tot x = tot (rowR r 0) then (tot (rowR r 0), true) else (0, false)) := by
  have hlen := hr.len; have hc1 := hr.c1; have hc3 := hr.c3
  have hrow : ∀ x ∈ r, Ev (fun k => impl_sum.f k x) (tot x) := fun x hx => by
    have := row_bounds hr x hx
    exact implSum_ev x (by omega) (fun y hy => by have := this.2 y hy; omega)
  have h0 : rowR r 0 ∈ r := rowR_range r 0 (by omega) (by omega)
  induction d with
  | zero =>
    intro i hi
    refine Ev.step (fun _ => rfl) ?_
    refine ev_neg (by omega) (ev_pos (by omega) ?_)
    rw [List.drop_eq_nil_of_le (by omega), if_pos (by simp)]
    exact Ev.bind (hrow _ h0) (Ev.now _)
  | succ d ih =>
    intro i hi
    refine Ev.step (fun _ => rfl) ?_
    refine ev_pos (by omega) (ev_pos (by omega) (ev_pos (by omega) ?_))
    refine Ev.bind (hrow _ (rowR_mem r i (by omega))) (ev_pos (by omega) (Ev.bind (hrow _ h0) ?_))
    rw [drop_rowR r i (by omega)]
    by_cases h : tot (rowR r (i : Int)) = tot (rowR r 0)
    · refine ev_pos h ?_
      rw [w64n i (by omega)]
      refine ev_eq (ih (i + 1) (by omega)) ?_
      simp [h]
    · refine ev_neg h (ev_eq (Ev.now _) ?_)
      rw [if_neg (fun hh => h (hh _ List.mem_cons_self))]
theorem implEvenRule_ev (c : Int) (r : List (List Int)) (hl : r.length ≤ 100000000) (hr : ∀ x ∈ r, x.length ≤ 1000000000) : Ev (fun k => impl_EvenRule.f k c r) (evenP c r) := by
  unfold impl_EvenRule.f evenP
  refine Ev.bind (implRuleOk_ev c r hl hr) ?_
  cases h : ruleB c r with
  | false => rw [if_neg (fun hh => by cases hh.1)]; exact ev_neg (by simp) (Ev.now _)
  | true =>
    have hk := (ruleB_known h).1
    refine ev_pos rfl ?_
    refine ev_eq (implEvenRule_loop _ r hk r.length 0 (by omega)) ?_
    simp

theorem sameInts_loop (l : List Int) (hl : l.length ≤ 1000000000) (d : Nat) : ∀ i : Nat, i + d = l.length → Ev (fun k => laws_sameInts.l0 k l l (i : Int)) true := by
  induction d with
  | zero =>
    intro i hi
    refine Ev.step (fun _ => rfl) ?_
    exact ev_neg (by omega) (Ev.now _)
  | succ d ih =>
    intro i hi
    refine Ev.step (fun _ => rfl) ?_
    refine ev_pos (by omega) (ev_pos (by omega) (ev_pos (by omega) (ev_pos rfl ?_)))
    rw [w64n i (by omega)]
    exact ih (i + 1) (by omega)
theorem sameInts_ev (l : List Int) (hl : l.length ≤ 1000000000) : Ev (fun k => laws_sameInts.f k l l) true := by
  unfold laws_sameInts.f
  exact ev_pos rfl (sameInts_loop l hl l.length 0 (by omega))

theorem l20Rule_row {b : List Int} (hb : OkB b) (c : Nat) (n kind : Int) (R : List (List Int)) (i : Int) (M : Int) (hM : M ≤ 900000) (Q : List (List Int) × Int → Prop) (hc3 : c ≤ 3)
    (H : ∀ (row : List Int) (p : Int), 0 ≤ p → p ≤ M → row.length = c → ∃ z, Ev (fun k => spec_l20Rule.l1 k (c : Int) n R kind i row (c : Int) b p) z ∧ Q z) (d : Nat) :
    ∀ (j : Nat) (row : List Int) (p : Int), 0 ≤ p → p + 2 * d ≤ M → j + d = c → row.length = c → ∃ z, Ev (fun k => spec_l20Rule.l1 k (c : Int) n R kind i row (j : Int) b p) z ∧ Q z := by
  induction d with
  | zero =>
    intro j row p hp0 hp hj hl
    obtain rfl : j = c := by omega
    exact H row p hp0 (by omega) hl
  | succ d ih =>
    intro j row p hp0 hp hj hl
    obtain ⟨v1, e1, a1, b1⟩ := pick_ev hb hp0 (by omega) 3 (by omega) (by omega)
    obtain ⟨v2, e2, a2, b2⟩ := pick_ev hb (p := p + 1) (by omega) (by omega) 2 (by omega) (by omega)
    obtain ⟨z, hz, hQ⟩ := ih (j + 1) (row.set j (wrap64 (v1 * v2))) (p + 1 + 1) (by omega) (by omega) (by omega) (by rw [List.length_set]; exact hl)
    refine ⟨z, Ev.step (fun _ => rfl) (ev_pos (by omega) (Ev.bind e1 (Ev.bind e2 (ev_pos (by omega) (ev_pos (by rw [hl]; omega) ?_))))), hQ⟩
    rw [w64n j (by omega), show ((j : Int)).toNat = j from by simp]
    exact hz
theorem l20Rule_loop {b : List Int} (hb : OkB b) (c : Nat) (hc1 : 1 ≤ c) (hc3 : c ≤ 3) (n kind : Int) (hn0 : 1 ≤ n) (hn : n ≤ 1000000) (M : Int) (hM : M ≤ 900000) (d : Nat) :
    ∀ (i : Nat) (R : List (List Int)) (p : Int), 0 ≤ p → p + 6 * d + 2 ≤ M → i + d = c → R.length = i → (∀ x ∈ R, x.length = c) →
    ∃ z, Ev (fun k => spec_l20Rule.l0 k (c : Int) n R kind (i : Int) b p) z ∧ (0 ≤ z.2 ∧ z.2 ≤ M ∧ z.1.length ≤ 3 ∧ ∀ x ∈ z.1, x.length ≤ 3) := by
  induction d with
  | zero =>
    intro i R p hp0 hp hi hl hR
    obtain ⟨v, hv⟩ := odd_ev hb hp0 (by omega) n hn0 hn
    cases v with
    | false => exact ⟨(R, p + 1), Ev.step (fun _ => rfl) (ev_neg (by omega) (Ev.bind hv (Ev.now _))), by simp only; omega, by simp only; omega, by simp only; omega, fun x hx => by have := hR x hx; omega⟩
    | true =>
      obtain ⟨w, hw, hw0, hw1⟩ := pick_ev hb (p := p + 1) (by omega) (by omega) 2 (by omega) (by omega)
      have h0 : rowR R 0 ∈ R := rowR_range R 0 (by omega) (by omega)
      have h0l := hR _ h0
      have ec : wrap64 ((c : Int) - 1) = (c : Int) - 1 := w64 (by omega) (by omega)
      by_cases h1 : w = 0
      · refine ⟨(R.set 0 ((rowR R 0).set (wrap64 ((c : Int) - 1)).toNat 4), p + 1 + 1), Ev.step (fun _ => rfl) (ev_neg (by omega) (Ev.bind hv (Ev.bind hw (ev_pos h1 (ev_pos (by omega) (ev_pos (by omega) (ev_pos (show wrap64 ((c : Int) - 1) < ((rowR R 0).length : Int) by rw [h0l]; omega) (Ev.now _)))))))), by simp only; omega, by simp only; omega, by simp only [List.length_set]; omega, fun x hx => ?_⟩
        rcases List.mem_or_eq_of_mem_set hx with hx | rfl
        · have := hR x hx; omega
        · rw [List.length_set]; omega
      · exact ⟨(R.drop 1, p + 1 + 1), Ev.step (fun _ => rfl) (ev_neg (by omega) (Ev.bind hv (Ev.bind hw (ev_neg h1 (ev_pos (by omega) (Ev.now _)))))), by simp only; omega, by simp only; omega, by simp only [List.length_drop]; omega, fun x hx => by have := hR x (List.mem_of_mem_drop hx); omega⟩
  | succ d ih =>
    intro i R p hp0 hp hi hl hR
    have H : ∀ (row : List Int) (q : Int), 0 ≤ q → q ≤ M - 6 * d - 2 → row.length = c → ∃ z, Ev (fun k => spec_l20Rule.l1 k (c : Int) n R kind (i : Int) row (c : Int) b q) z ∧ (0 ≤ z.2 ∧ z.2 ≤ M ∧ z.1.length ≤ 3 ∧ ∀ x ∈ z.1, x.length ≤ 3) := by
      intro row q hq0 hq hrl
      have fin : ∀ row' : List Int, row'.length = c → ∃ z, Ev (fun k => spec_l20Rule.l0 k (c : Int) n (R ++ [row']) kind (wrap64 ((i : Int) + 1)) b q) z ∧ (0 ≤ z.2 ∧ z.2 ≤ M ∧ z.1.length ≤ 3 ∧ ∀ x ∈ z.1, x.length ≤ 3) := by
        intro row' hr'
        rw [w64n i (by omega)]
        refine ih (i + 1) (R ++ [row']) q hq0 (by omega) (by omega) (by simp; omega) (fun x hx => ?_)
        rcases List.mem_append.1 hx with hx | hx
        · exact hR x hx
        · have : x = row' := by simpa using hx
          rw [this]; exact hr'
      by_cases k0 : kind = 0
      · obtain ⟨z, hz, hQ⟩ := fin ((List.replicate ((c : Int)).toNat 0).set ((i : Int)).toNat 1) (by simp)
        exact ⟨z, Ev.step (fun _ => rfl) (ev_neg (by omega) (ev_pos k0 (ev_pos (by omega) (ev_pos (by omega) (Ev.bind (Ev.now _) (ev_pos (by omega) (ev_pos (by simp; omega) (ev_pos (by omega) hz)))))))), hQ⟩
      · by_cases k1 : kind = 1
        · have m1 := tmod_range ((i + 1 : Nat) : Int) (c : Int) (by omega) (by omega)
          obtain ⟨z, hz, hQ⟩ := fin (((List.replicate ((c : Int)).toNat 0).set ((i : Int)).toNat (-1)).set (Int.tmod (wrap64 ((i : Int) + 1)) (c : Int)).toNat (wrap64 ((rd ((List.replicate ((c : Int)).toNat 0).set ((i : Int)).toNat (-1)) (Int.tmod (wrap64 ((i : Int) + 1)) (c : Int))) + 1))) (by simp)
          exact ⟨z, Ev.step (fun _ => rfl) (ev_neg (by omega) (ev_neg k0 (ev_pos k1 (ev_pos (by omega) (ev_pos (by omega) (Ev.bind (Ev.now _) (ev_pos (by omega) (ev_pos (by simp; omega) (Ev.bind (Ev.now _) (ev_neg (by omega) (ev_pos (by rw [w64n i (by omega)]; exact m1.1) (ev_pos (by rw [w64n i (by omega)]; simp only [List.length_replicate, Int.toNat_natCast]; exact m1.2) (ev_pos (by omega) hz))))))))))))), hQ⟩
        · obtain ⟨z, hz, hQ⟩ := fin row hrl
          exact ⟨z, Ev.step (fun _ => rfl) (ev_neg (by omega) (ev_neg k0 (ev_neg k1 (ev_pos (by omega) hz)))), hQ⟩
    obtain ⟨z, hz, hQ⟩ := l20Rule_row hb c n kind R i (M - 6 * d - 2) (by omega) _ hc3 H c 0 (List.replicate c 0) p hp0 (by omega) (by omega) (by simp)
    exact ⟨z, Ev.step (fun _ => rfl) (ev_pos (by omega) (ev_pos (by omega) (ev_pos (by omega) hz))), hQ⟩
theorem l20Rule_ev {b : List Int} (hb : OkB b) {p : Int} (hp0 : 0 ≤ p) (hp : p ≤ 800000) (c n : Int) (hn0 : 1 ≤ n) (hn : n ≤ 1000000) :
    ∃ r p', Ev (fun k => spec_l20Rule.f k b p c n) (r, p') ∧ 0 ≤ p' ∧ p' ≤ p + 30 ∧ r.length ≤ 3 ∧ ∀ x ∈ r, x.length ≤ 3 := by
  obtain ⟨v, hv, hv0, hv1⟩ := pick_ev hb hp0 (by omega) 4 (by omega) (by omega)
  obtain ⟨m, hm, hm1, hm3⟩ : ∃ m : Nat, mn (mx c 1) 3 = (m : Int) ∧ 1 ≤ m ∧ m ≤ 3 := by
    have : 1 ≤ mn (mx c 1) 3 ∧ mn (mx c 1) 3 ≤ 3 := by unfold mn mx; split <;> split <;> omega
    exact ⟨(mn (mx c 1) 3).toNat, by omega, by omega, by omega⟩
  obtain ⟨z, hz, h1, h2, h3, h4⟩ := l20Rule_loop hb m hm1 hm3 n v hn0 hn (p + 30) (by omega) m 0 [] (p + 1) (by omega) (by omega) (by omega) rfl (by simp)
  refine ⟨z.1, z.2, ?_, h1, h2, h3, h4⟩
  unfold spec_l20Rule.f
  refine Ev.bind hv ?_
  rw [hm]
  exact hz

theorem l20Ruled_ev {b : List Int} (hb : OkB b) {p : Int} (hp0 : 0 ≤ p) (hp : p ≤ 700000) :
    ∃ u r w p', Ev (fun k => spec_l20Ruled.f k b p) (u, r, w, p') ∧ 0 ≤ p' ∧ p' ≤ p + 100 ∧ u.length ≤ 4 ∧ r.length ≤ 3 ∧ (∀ x ∈ r, x.length ≤ 3) ∧ w.length ≤ 7 := by
  obtain ⟨u, p1, hu, a1, a2, a3, a4⟩ := l20Urn_ev hb hp0 (by omega) 14 (by omega) (by omega)
  obtain ⟨r, p2, hr, b1, b2, b3, b4⟩ := l20Rule_ev hb (p := p1) (by omega) (by omega) (u.length : Int) 14 (by omega) (by omega)
  obtain ⟨w, p3, hw, c1, c2, c3, c4⟩ := l20Word_ev hb (p := p2) (by omega) (by omega) (u.length : Int) 14 (by omega) (by omega) (by omega)
  refine ⟨u, r, w, p3, ?_, by omega, by omega, a3, b3, b4, c3⟩
  unfold spec_l20Ruled.f
  exact Ev.bind hu (Ev.bind hr (Ev.bind hw (Ev.now _)))

theorem DrawAfterWord_ev (l : List Int) (hb : ∀ x ∈ l, (Lit.int .u8 x).wf = true) : ∃ u r w, Ev (fun k => spec_DrawAfterWord.f k l) (u, r, w) ∧ u.length ≤ 4 ∧ r.length ≤ 3 ∧ (∀ x ∈ r, x.length ≤ 3) ∧ w.length ≤ 7 := by
  obtain ⟨b, hf, hk⟩ := l20Open_f l hb
  obtain ⟨u, r, w, p', h, _, _, h1, h2, h3, h4⟩ := l20Ruled_ev hk (p := 0) (by omega) (by omega)
  refine ⟨u, r, w, ?_, h1, h2, h3, h4⟩
  unfold spec_DrawAfterWord.f
  rw [hf]
  exact Ev.bind (Ev.now _) (Ev.bind h (Ev.now _))

theorem FnAfterWord : laws_FnAfterWord.Pure := by
  intro l hl0 _ hb
  refine Ev.rounds (g := fun k => laws_FnAfterWord.f k l) ?_
  unfold laws_FnAfterWord.f
  by_cases h : (l.length : Int) > 1048576
  · exact ev_pos h (Ev.now _)
  refine ev_neg h ?_
  obtain ⟨u, r, w, hd, hu, hr, hrr, hw⟩ := DrawAfterWord_ev l hb
  have hrr' : ∀ x ∈ r, x.length ≤ 1000000000 := fun x hx => by have := hrr x hx; omega
  have hlen : (afterP u r w).1.length ≤ 1000000000 := by
    unfold afterP
    by_cases hh : startB u = true ∧ ruleB u.length r = true ∧ wordB u.length w = true
    · rw [if_pos hh]
      by_cases h4 : waysL r u w = 0
      · rw [if_pos h4]; simp
      · rw [if_neg h4]
        have hk := (ruleB_known hh.2.1).1
        rw [Int.toNat_natCast] at hk
        have := (near_after hk w 0 u (near_start hh.1).1 (wordB_bounds hh.2.2).1).1
        simp only [this]; omega
    · rw [if_neg hh]; simp
  refine Ev.bind hd (Ev.bind (implAfterWord_ev u r w (by omega) (by omega) hrr' (by omega)) (Ev.bind (specAfterWord_ev u r w (by omega) (by omega) hrr' (by omega)) (Ev.bind (sameInts_ev _ hlen) (ev_pos rfl ?_))))
  refine Ev.step (fun _ => by rw [laws_FnAfterWord.j0]) (ev_neg (by simp) (Ev.bind (implRuleWays_ev u r w (by omega) (by omega) hrr' (by omega)) ?_))
  unfold afterP waysP
  by_cases hh : startB u = true ∧ ruleB u.length r = true ∧ wordB u.length w = true
  · rw [if_pos hh, if_pos hh]
    obtain ⟨n1, n2, n3, n4, n5⟩ := near_start hh.1
    have hk := (ruleB_known hh.2.1).1
    rw [Int.toNat_natCast] at hk
    obtain ⟨w1, _, _, w2⟩ := wordB_bounds hh.2.2
    by_cases h4 : waysL r u w = 0
    · rw [if_pos h4]
      exact ev_neg (by simp) (ev_pos rfl (ev_pos (by omega) (Ev.bind alive_ev (Ev.now _))))
    · rw [if_neg h4]
      have hna := near_after hk w 0 u n1 w1
      have hpos := pos_after hk w u rfl (fun i hi => (n4 _ (rd_mem u i hi)).1) w1 h4
      have hel : ∀ x ∈ afterL r u w, 0 ≤ x ∧ x ≤ 40 := all_of_rd (P := fun x => 0 ≤ x ∧ x ≤ 40) fun i hi => by
        have := hna.2 i (by rw [← hna.1]; exact hi); have := hpos i (by rw [← hna.1]; exact hi)
        omega
      have hub : urnB (afterL r u w) = true := by
        simp only [urnB, urnE, colB, Bool.and_eq_true, List.all_eq_true, decide_eq_true_eq]
        exact ⟨hel, by rw [hna.1]; omega⟩
      have hwb := waysL_bound' hk w u n1 w2 w1
      refine ev_pos rfl (Ev.bind (implEvenRule_ev _ r (by omega) hrr') (Ev.bind (implUrnOk_ev _ (by rw [hna.1]; omega)) (ev_pos hub (ev_pos (by omega) ?_))))
      by_cases he : ruleB u.length r = true ∧ (∀ x ∈ r, tot x = tot (rowR r 0))
      · have e : evenP u.length r = (tot (rowR r 0), true) := by unfold evenP; rw [if_pos he]
        rw [e]
        have t1 := implTotalOf_ev (afterL r u w) (by rw [hna.1]; omega)
        have t2 := implTotalOf_ev u (by omega)
        rw [if_pos hub] at t1
        rw [if_pos n5] at t2
        refine ev_pos rfl (Ev.bind t1 (Ev.bind t2 (ev_eq (Ev.now _) ?_)))
        have ht := tot_after hk _ he.2 w u rfl w1
        have hb1 := row_tot hk _ (rowR_range r 0 (by omega) (by rw [hk.len]; omega))
        have hb2 := tot_bound u 40 (by omega) (urnB_bounds n5).1
        have hb3 : -54 ≤ tot (rowR r 0) * (w.length : Int) ∧ tot (rowR r 0) * (w.length : Int) ≤ 54 := by
          have : w.length = 0 ∨ w.length = 1 ∨ w.length = 2 ∨ w.length = 3 ∨ w.length = 4 ∨ w.length = 5 ∨ w.length = 6 := by omega
          rcases this with h | h | h | h | h | h | h <;> rw [h] <;> omega
        rw [w64 (x := tot (rowR r 0) * (w.length : Int)) (by omega) (by omega), w64 (by omega) (by omega), ht]
        simp
      · have e : evenP u.length r = (0, false) := by unfold evenP; rw [if_neg he]
        rw [e]
        exact ev_neg (by simp) (Ev.now _)
  · rw [if_neg hh, if_neg hh]
    exact ev_neg (by simp) (ev_pos rfl (ev_pos (by omega) (Ev.bind alive_ev (Ev.now _))))

end Go.Proofs.Ytfodnffdccfleaa.Pure
