/- The law FnBackWays: for every input the printed function of the law answers true. No condition. -/
import Derived.Test.YtlakokejoifamaaPFnBackWaysx5
import Derived.Test.YtlakokejoifamaaPlain
set_option linter.unusedVariables false
set_option linter.unusedSimpArgs false
namespace Go.Proofs.Ytlakokejoifamaa.Pure
open Go.RowKit Go.Proofs.Ytlakokejoifamaa.PFnBackWays Go.Proofs.YtlakokejoifamaaW.PrintWords Go.Proofs.YtlakokejoifamaaW.PrintLast Go.Proofs.YtlakokejoifamaaW.PrintMore Go.Proofs.Ytlakokejoifamaa.Plain

theorem l1In_f (x a b : Int) : spec_l1In.f x a b = some (inB x a b) := by
  unfold spec_l1In.f inB
  by_cases h : x ≥ a
  · rw [if_pos h]; congr 1; simp [h]
  · rw [if_neg h]; congr 1; simp; omega

theorem coloursOk_f (x : Int) : impl_coloursOk.f x = some (colB x) := by
  unfold impl_coloursOk.f colB
  by_cases h : x ≥ 1
  · rw [if_pos h]; congr 1; simp [h]
  · rw [if_neg h]; congr 1; simp; omega

theorem implUrnOk_loop (l : List Int) (hl : l.length ≤ 1000000000) (d : Nat) : ∀ i : Nat, i + d = l.length → Ev (fun k => impl_UrnOk.l0 k l l (l.length : Int) (i : Int)) ((l.drop i).all urnE && colB l.length) := by
  induction d with
  | zero =>
    intro i hi
    refine Ev.step (fun _ => rfl) ?_
    refine ev_neg (by omega) ?_
    rw [coloursOk_f, List.drop_eq_nil_of_le (by omega)]
    exact Ev.now _
  | succ d ih =>
    intro i hi
    refine Ev.step (fun _ => rfl) ?_
    refine ev_pos (by omega) (ev_pos (by omega) (ev_pos (by omega) ?_))
    rw [drop_rd l i (by omega), List.all_cons]
    by_cases h1 : rd l (i : Int) < 0
    · refine ev_pos h1 (ev_eq (Ev.now _) ?_)
      rw [show urnE (rd l (i : Int)) = false from by simp [urnE]; omega]; rfl
    · refine ev_neg h1 ?_
      by_cases h2 : rd l (i : Int) > 40
      · refine ev_pos h2 (ev_eq (Ev.now _) ?_)
        rw [show urnE (rd l (i : Int)) = false from by simp [urnE]; omega]; rfl
      · refine ev_neg h2 ?_
        rw [w64n i (by omega), show urnE (rd l (i : Int)) = true from by simp [urnE]; omega, Bool.true_and]
        exact ih (i + 1) (by omega)
theorem implUrnOk_ev (l : List Int) (hl : l.length ≤ 1000000000) : Ev (fun k => impl_UrnOk.f k l) (urnB l) := by
  unfold impl_UrnOk.f
  exact implUrnOk_loop l hl l.length 0 (by omega)

theorem specUrnOk_loop (l : List Int) (hl : l.length ≤ 1000000000) (d : Nat) : ∀ i : Nat, i + d = l.length → Ev (fun k => spec_UrnOk.l0 k l (i : Int)) ((l.drop i).all urnE && colB l.length) := by
  induction d with
  | zero =>
    intro i hi
    refine Ev.step (fun _ => rfl) ?_
    refine ev_neg (by omega) ?_
    rw [l1In_f, List.drop_eq_nil_of_le (by omega)]
    exact Ev.now _
  | succ d ih =>
    intro i hi
    refine Ev.step (fun _ => rfl) ?_
    refine ev_pos (by omega) (ev_pos (by omega) ?_)
    rw [drop_rd l i (by omega), List.all_cons, l1In_f, show inB (rd l (i : Int)) 0 40 = urnE (rd l (i : Int)) from rfl]
    cases h : urnE (rd l (i : Int)) with
    | false => exact Ev.now _
    | true =>
      simp only [Option.bind_some, if_true, Bool.true_and]
      rw [w64n i (by omega)]
      exact ih (i + 1) (by omega)
theorem specUrnOk_ev (l : List Int) (hl : l.length ≤ 1000000000) : Ev (fun k => spec_UrnOk.f k l) (urnB l) := by
  unfold spec_UrnOk.f
  exact specUrnOk_loop l hl l.length 0 (by omega)

theorem implWordOk_loop (c : Int) (l : List Int) (hl : l.length ≤ 1000000000) (d : Nat) : ∀ i : Nat, i + d = l.length → Ev (fun k => impl_WordOk.l0 k c l l (l.length : Int) (i : Int)) ((l.drop i).all (fun x => decide (0 ≤ x ∧ x < c)) && (colB c && decide ((l.length : Int) ≤ 6))) := by
  induction d with
  | zero =>
    intro i hi
    refine Ev.step (fun _ => rfl) ?_
    refine ev_neg (by omega) ?_
    rw [coloursOk_f, List.drop_eq_nil_of_le (by omega)]
    cases h : colB c <;> exact Ev.now _
  | succ d ih =>
    intro i hi
    refine Ev.step (fun _ => rfl) ?_
    refine ev_pos (by omega) (ev_pos (by omega) (ev_pos (by omega) ?_))
    rw [drop_rd l i (by omega), List.all_cons]
    by_cases h1 : rd l (i : Int) < 0
    · refine ev_pos h1 (ev_eq (Ev.now _) ?_)
      rw [show decide (0 ≤ rd l (i : Int) ∧ rd l (i : Int) < c) = false from by simp; omega]; rfl
    · refine ev_neg h1 ?_
      by_cases h2 : rd l (i : Int) ≥ c
      · refine ev_pos h2 (ev_eq (Ev.now _) ?_)
        rw [show decide (0 ≤ rd l (i : Int) ∧ rd l (i : Int) < c) = false from by simp; omega]; rfl
      · refine ev_neg h2 ?_
        rw [w64n i (by omega), show decide (0 ≤ rd l (i : Int) ∧ rd l (i : Int) < c) = true from by simp; omega, Bool.true_and]
        exact ih (i + 1) (by omega)
theorem implWordOk_ev (c : Int) (l : List Int) (hl : l.length ≤ 1000000000) : Ev (fun k => impl_WordOk.f k c l) (wordB c l) := by
  unfold impl_WordOk.f
  exact implWordOk_loop c l hl l.length 0 (by omega)

theorem specWordOk_loop (c : Int) (l : List Int) (hl : l.length ≤ 1000000000) (d : Nat) : ∀ i : Nat, i + d = l.length → Ev (fun k => spec_WordOk.l0 k c l (i : Int)) ((l.drop i).all (fun x => decide (0 ≤ x ∧ x < c)) && (colB c && decide ((l.length : Int) ≤ 6))) := by
  induction d with
  | zero =>
    intro i hi
    refine Ev.step (fun _ => rfl) ?_
    refine ev_neg (by omega) ?_
    rw [l1In_f, List.drop_eq_nil_of_le (by omega), show inB c 1 3 = colB c from rfl]
    cases h : colB c <;> exact Ev.now _
  | succ d ih =>
    intro i hi
    refine Ev.step (fun _ => rfl) ?_
    refine ev_pos (by omega) (ev_pos (by omega) ?_)
    rw [drop_rd l i (by omega), List.all_cons]
    by_cases h1 : rd l (i : Int) < 0
    · refine ev_pos h1 (ev_eq (Ev.now _) ?_)
      rw [show decide (0 ≤ rd l (i : Int) ∧ rd l (i : Int) < c) = false from by simp; omega]; rfl
    · refine ev_neg h1 ?_
      by_cases h2 : rd l (i : Int) ≥ c
      · refine ev_pos h2 (ev_eq (Ev.now _) ?_)
        rw [show decide (0 ≤ rd l (i : Int) ∧ rd l (i : Int) < c) = false from by simp; omega]; rfl
      · refine ev_neg h2 ?_
        rw [w64n i (by omega), show decide (0 ≤ rd l (i : Int) ∧ rd l (i : Int) < c) = true from by simp; omega, Bool.true_and]
        exact ih (i + 1) (by omega)
theorem specWordOk_ev (c : Int) (l : List Int) (hl : l.length ≤ 1000000000) : Ev (fun k => spec_WordOk.f k c l) (wordB c l) := by
  unfold spec_WordOk.f
  exact specWordOk_loop c l hl l.length 0 (by omega)

theorem implBackWays_loop (u ws : List Int) (hu : ∀ x ∈ u, 0 ≤ x ∧ x ≤ 40) (hw : ∀ x ∈ ws, 0 ≤ x ∧ x < u.length) (hl : ws.length ≤ 6) (d : Nat) : ∀ i : Nat, i + d = ws.length → Ev (fun k => impl_BackWays.l0 k u (prodF (rd u) (ws.take i)) ws (ws.length : Int) (i : Int)) (prodF (rd u) ws) := by
  induction d with
  | zero =>
    intro i hi
    refine Ev.step (fun _ => rfl) ?_
    refine ev_neg (by omega) (ev_eq (Ev.now _) ?_)
    rw [List.take_of_length_le (by omega)]
  | succ d ih =>
    intro i hi
    refine Ev.step (fun _ => rfl) ?_
    have hc := hw _ (rd_mem ws i (by omega))
    refine ev_pos (by omega) (ev_pos (by omega) (ev_pos (by omega) (ev_pos hc.1 (ev_pos hc.2 ?_))))
    have hb := prodF_bound' (rd u) 40 (by omega) (by omega) (ws.take (i + 1)) (by rw [List.length_take]; omega) (fun x hx => by
      have := hw x (List.mem_of_mem_take hx); exact hu _ (rd_range u x this.1 this.2))
    have e : prodF (rd u) (ws.take i) * rd u (rd ws (i : Int)) = prodF (rd u) (ws.take (i + 1)) := by rw [take_rd ws i (by omega), prodF_append]; simp [prodF]
    rw [w64n i (by omega), e, w64 (by omega) (by omega)]
    exact ih (i + 1) (by omega)
theorem implBackWays_ev (u ws : List Int) (hl : u.length ≤ 1000000000) (hl2 : ws.length ≤ 1000000000) : Ev (fun k => impl_BackWays.f k u ws) (if urnB u = true ∧ wordB u.length ws = true then prodF (rd u) ws else -1) := by
  have no : Ev (fun k => impl_BackWays.j0 k u ws true) (-1) := Ev.step (fun _ => rfl) (Ev.now _)
  unfold impl_BackWays.f
  refine Ev.bind (implUrnOk_ev u hl) ?_
  by_cases h : urnB u = true
  · refine ev_pos h (Ev.bind (implWordOk_ev _ ws hl2) ?_)
    obtain ⟨h1, h2, h3⟩ := urnB_bounds h
    cases h4 : wordB u.length ws with
    | false => rw [if_neg (fun hh => by cases hh.2)]; exact no
    | true =>
      rw [if_pos ⟨h, rfl⟩]
      obtain ⟨h5, h6, h7, h8⟩ := wordB_bounds h4
      exact Ev.step (fun _ => rfl) (implBackWays_loop u ws h1 h5 h8 ws.length 0 (by omega))
  · refine ev_neg h ?_
    rw [if_neg (fun hh => h hh.1)]; exact no

theorem specBackWays_loop (u ws : List Int) (hu : ∀ x ∈ u, 0 ≤ x ∧ x ≤ 40) (hw : ∀ x ∈ ws, 0 ≤ x ∧ x < u.length) (hl : ws.length ≤ 6) (d : Nat) : ∀ i : Nat, i + d = ws.length → Ev (fun k => spec_BackWays.l0 k u ws (prodF (rd u) (ws.take i)) (i : Int)) (prodF (rd u) ws) := by
  induction d with
  | zero =>
    intro i hi
    refine Ev.step (fun _ => rfl) ?_
    refine ev_neg (by omega) (ev_eq (Ev.now _) ?_)
    rw [List.take_of_length_le (by omega)]
  | succ d ih =>
    intro i hi
    refine Ev.step (fun _ => rfl) ?_
    have hc := hw _ (rd_mem ws i (by omega))
    refine ev_pos (by omega) (ev_pos (by omega) (ev_pos hc.1 (ev_pos hc.2 ?_)))
    have hb := prodF_bound' (rd u) 40 (by omega) (by omega) (ws.take (i + 1)) (by rw [List.length_take]; omega) (fun x hx => by
      have := hw x (List.mem_of_mem_take hx); exact hu _ (rd_range u x this.1 this.2))
    have e : prodF (rd u) (ws.take i) * rd u (rd ws (i : Int)) = prodF (rd u) (ws.take (i + 1)) := by rw [take_rd ws i (by omega), prodF_append]; simp [prodF]
    rw [w64n i (by omega), e, w64 (by omega) (by omega)]
    exact ih (i + 1) (by omega)
theorem specBackWays_ev (u ws : List Int) (hl : u.length ≤ 1000000000) (hl2 : ws.length ≤ 1000000000) : Ev (fun k => spec_BackWays.f k u ws) (if urnB u = true ∧ wordB u.length ws = true then prodF (rd u) ws else -1) := by
  have no : Ev (fun k => spec_BackWays.j0 k u ws true) (-1) := Ev.step (fun _ => rfl) (Ev.now _)
  unfold spec_BackWays.f
  refine Ev.bind (specUrnOk_ev u hl) ?_
  by_cases h : urnB u = true
  · refine ev_pos h (Ev.bind (specWordOk_ev _ ws hl2) ?_)
    obtain ⟨h1, h2, h3⟩ := urnB_bounds h
    cases h4 : wordB u.length ws with
    | false => rw [if_neg (fun hh => by cases hh.2)]; exact no
    | true =>
      rw [if_pos ⟨h, rfl⟩]
      obtain ⟨h5, h6, h7, h8⟩ := wordB_bounds h4
      exact Ev.step (fun _ => rfl) (specBackWays_loop u ws h1 h5 h8 ws.length 0 (by omega))
  · refine ev_neg h ?_
    rw [if_neg (fun hh => h hh.1)]; exact no

theorem l20Open_f (l : List Int) (hb : ∀ x ∈ l, (Lit.int .u8 x).wf = true) : ∃ b, spec_l20Open.f l = some (b, 0) ∧ OkB b := by
  unfold spec_l20Open.f
  by_cases h : (l.length : Int) > 2000
  · rw [if_pos h, if_pos (by omega)]
    exact ⟨_, rfl, fun x hx => u8_wf (hb x (List.mem_of_mem_take hx)), by rw [List.length_take]; omega⟩
  · rw [if_neg h]
    exact ⟨_, rfl, fun x hx => u8_wf (hb x hx), by omega⟩

theorem pick_ev {b : List Int} (hb : OkB b) {p : Int} (hp0 : 0 ≤ p) (hp : p ≤ 1000000) (n : Int) (hn0 : 1 ≤ n) (hn : n ≤ 1000000) : ∃ v, Ev (fun k => spec_l20Rd_pick.f k b p n) (v, p + 1) ∧ 0 ≤ v ∧ v < n := by
  obtain ⟨hb1, hb2⟩ := hb
  unfold spec_l20Rd_pick.f
  have e1 : wrap64 (p + 1) = p + 1 := w64 (by omega) (by omega)
  by_cases h0 : b.length = 0
  · refine ⟨0, ev_neg (by omega) ?_, by omega, by omega⟩
    rw [show ((b.length : Int) == 0) = true from by simp [h0], e1]
    exact Ev.step (fun _ => rfl) (Ev.now _)
  · have hz : ((b.length : Int) == 0) = false := by simp; intro hh; exact h0 (by simp [hh])
    have hat : ∀ i : Int, 0 ≤ i → i < b.length → 0 ≤ rd b i ∧ rd b i ≤ 255 := fun i h1 h2 => hb1 _ (rd_range b i h1 h2)
    have e2 : wrap64 (p + 1 - 1) = p := by rw [show p + 1 - 1 = p by omega]; exact w64 (by omega) (by omega)
    by_cases h1 : p < (b.length : Int)
    · have hr := hat p hp0 h1
      have ht := tmod_range (rd b p) n hr.1 (by omega)
      refine ⟨Int.tmod (rd b p) n, ev_neg (by omega) ?_, ht.1, ht.2⟩
      rw [hz, e1]
      refine Ev.step (fun _ => by rw [spec_l20Rd_pick.j0]) (ev_neg (by simp) ?_)
      rw [e2, w64 (x := rd b p) (by omega) (by omega)]
      exact ev_pos h1 (ev_pos hp0 (ev_neg (by omega) (Ev.now _)))
    · have m1 := tmod_range p (b.length : Int) hp0 (by omega)
      have e3 : wrap64 (p * 7) = p * 7 := w64 (by omega) (by omega)
      have e4 : wrap64 (p * 7 + 3) = p * 7 + 3 := w64 (by omega) (by omega)
      have m2 := tmod_range (p * 7 + 3) (b.length : Int) (by omega) (by omega)
      have r1 := hat _ m1.1 m1.2
      have r2 := hat _ m2.1 m2.2
      have d1 := tdiv_range p (b.length : Int) hp0 (by omega)
      have key : ∀ x y z : Int, 0 ≤ x → x ≤ 255 → 0 ≤ y → y ≤ 255 → 0 ≤ z → z ≤ 1000000 →
          wrap64 (wrap64 (wrap64 (wrap64 (wrap64 x * 131) + wrap64 (wrap64 y * 1117)) + wrap64 (p * 29)) + wrap64 (wrap64 z * 53)) = x * 131 + y * 1117 + p * 29 + z * 53 := by
        intro x y z _ _ _ _ _ _
        rw [w64 (x := x) (by omega) (by omega), w64 (x := y) (by omega) (by omega), w64 (x := z) (by omega) (by omega), w64 (x := x * 131) (by omega) (by omega), w64 (x := y * 1117) (by omega) (by omega), w64 (x := p * 29) (by omega) (by omega), w64 (x := z * 53) (by omega) (by omega),
          w64 (x := x * 131 + y * 1117) (by omega) (by omega), w64 (x := x * 131 + y * 1117 + p * 29) (by omega) (by omega), w64 (by omega) (by omega)]
      obtain ⟨X, hX, hX0, hX1⟩ : ∃ X, wrap64 (wrap64 (wrap64 (wrap64 (wrap64 (rd b (Int.tmod p b.length)) * 131) + wrap64 (wrap64 (rd b (Int.tmod (p * 7 + 3) b.length)) * 1117)) + wrap64 (p * 29)) + wrap64 (wrap64 (Int.tdiv p b.length) * 53)) = X ∧ 0 ≤ X ∧ X ≤ 100000000 :=
        ⟨_, key _ _ _ r1.1 r1.2 r2.1 r2.2 d1.1 (by omega), by omega, by omega⟩
      have d2 := tdiv_range X 64 hX0 (by omega)
      have hx := xor_nonneg X (Int.tdiv X 64) hX0 (by omega) d2.1 (by omega)
      have ht := tmod_range _ n hx (by omega)
      refine ⟨Int.tmod (Go.bits .xor .i64 X (Int.tdiv X 64)) n, ev_neg (by omega) ?_, ht.1, ht.2⟩
      rw [hz, e1]
      refine Ev.step (fun _ => by rw [spec_l20Rd_pick.j0]) (ev_neg (by simp) ?_)
      rw [e2, e3, e4, hX, w64 (x := Int.tdiv X 64) (by omega) (by omega)]
      exact ev_neg h1 (ev_neg (by omega) (ev_pos m1.1 (ev_pos m1.2 (ev_pos m2.1 (ev_pos m2.2 (ev_neg (by omega) (Ev.now _)))))))

theorem odd_ev {b : List Int} (hb : OkB b) {p : Int} (hp0 : 0 ≤ p) (hp : p ≤ 1000000) (n : Int) (hn0 : 1 ≤ n) (hn : n ≤ 1000000) : ∃ v, Ev (fun k => spec_l20Rd_odd.f k b p n) (v, p + 1) := by
  obtain ⟨v, hv, _, _⟩ := pick_ev hb hp0 hp n hn0 hn
  unfold spec_l20Rd_odd.f
  exact ⟨_, ev_pos (by omega) (Ev.bind hv (Ev.now _))⟩

theorem l20Urn_loop {b : List Int} (hb : OkB b) (n : Int) (hn0 : 1 ≤ n) (hn : n ≤ 1000000) (d : Nat) : ∀ (l : List Int) (p : Int), 0 ≤ p → p + d ≤ 900000 → d ≤ 3 → 1 ≤ l.length + d → l.length + d ≤ 3 → (∀ x ∈ l, 0 ≤ x ∧ x ≤ 5) →
    ∃ u p', Ev (fun k => spec_l20Urn.l0 k n l (d : Int) b p) (u, p') ∧ p ≤ p' ∧ p' ≤ p + d + 5 ∧ u.length ≤ 4 ∧ ∀ x ∈ u, -1 ≤ x ∧ x ≤ 41 := by
  induction d with
  | zero =>
    intro l p hp0 hp _ hl1 hl2 hx
    obtain ⟨v, hv⟩ := odd_ev hb hp0 (by omega) n hn0 hn
    cases v with
    | false =>
      exact ⟨l, p + 1, Ev.step (fun _ => rfl) (ev_neg (by omega) (Ev.bind hv (Ev.now _))), by omega, by omega, by omega, fun x h => by have := hx x h; omega⟩
    | true =>
      obtain ⟨w, hw, hw0, hw1⟩ := pick_ev hb (p := p + 1) (by omega) (by omega) 3 (by omega) (by omega)
      by_cases h0 : w = 0
      · exact ⟨[], p + 1 + 1, Ev.step (fun _ => rfl) (ev_neg (by omega) (Ev.bind hv (Ev.bind hw (ev_pos h0 (Ev.now _))))), by omega, by omega, by simp, fun x h => by simp at h⟩
      · by_cases h1 : w = 1
        · obtain ⟨y, hy, hy0, hy1⟩ := pick_ev hb (p := p + 1 + 1) (by omega) (by omega) 2 (by omega) (by omega)
          refine ⟨l.set 0 (rd [-1, 41] y), p + 1 + 1 + 1, Ev.step (fun _ => rfl) (ev_neg (by omega) (Ev.bind hv (Ev.bind hw (ev_neg h0 (ev_pos h1 (Ev.bind (Ev.now _) (Ev.bind hy (ev_pos hy0 (ev_pos (by simpa using hy1) (ev_pos (by omega) (Ev.now _))))))))))), by omega, by omega, by rw [List.length_set]; omega, ?_⟩
          intro x h
          rcases List.mem_or_eq_of_mem_set h with h | rfl
          · have := hx x h; omega
          · have : y = 0 ∨ y = 1 := by omega
            rcases this with rfl | rfl <;> simp [rd]
        · exact ⟨[1, 1, 1, 1], p + 1 + 1, Ev.step (fun _ => rfl) (ev_neg (by omega) (Ev.bind hv (Ev.bind hw (ev_neg h0 (ev_neg h1 (Ev.now _)))))), by omega, by omega, by simp, fun x h => by simp at h; omega⟩
  | succ d ih =>
    intro l p hp0 hp hd hl1 hl2 hx
    obtain ⟨v, hv, hv0, hv1⟩ := pick_ev hb hp0 (by omega) 6 (by omega) (by omega)
    obtain ⟨u, p', hu, h1, h2, h3, h4⟩ := ih (l ++ [v]) (p + 1) (by omega) (by omega) (by omega) (by simp; omega) (by simp; omega) (fun x h => by
      rcases List.mem_append.1 h with h | h
      · exact hx x h
      · have : x = v := by simpa using h
        omega)
    refine ⟨u, p', Ev.step (fun _ => rfl) (ev_pos (by omega) (Ev.bind hv (ev_pos (by omega) ?_))), by omega, by omega, h3, h4⟩
    rw [w64 (by omega) (by omega), show ((d + 1 : Nat) : Int) - 1 = (d : Int) from by omega]
    exact hu
theorem l20Urn_ev {b : List Int} (hb : OkB b) {p : Int} (hp0 : 0 ≤ p) (hp : p ≤ 800000) (n : Int) (hn0 : 1 ≤ n) (hn : n ≤ 1000000) :
    ∃ u p', Ev (fun k => spec_l20Urn.f k b p n) (u, p') ∧ p ≤ p' ∧ p' ≤ p + 11 ∧ u.length ≤ 4 ∧ ∀ x ∈ u, -1 ≤ x ∧ x ≤ 41 := by
  obtain ⟨v, hv, hv0, hv1⟩ := pick_ev hb hp0 (by omega) 3 (by omega) (by omega)
  obtain ⟨m, rfl⟩ := Int.eq_ofNat_of_zero_le hv0
  obtain ⟨u, p', hu, h1, h2, h3, h4⟩ := l20Urn_loop hb n hn0 hn (1 + m) [] (p + 1) (by omega) (by omega) (by omega) (by simp) (by simp; omega) (by simp)
  refine ⟨u, p', ?_, by omega, by omega, h3, h4⟩
  unfold spec_l20Urn.f
  refine Ev.bind hv ?_
  rw [w64 (by omega) (by omega), show (1 : Int) + (m : Int) = ((1 + m : Nat) : Int) from by omega]
  exact hu

theorem l20Word_loop {b : List Int} (hb : OkB b) (c n : Int) (hc : c ≤ 1000) (hn0 : 1 ≤ n) (hn : n ≤ 1000000) (d : Nat) : ∀ (l : List Int) (p : Int), 0 ≤ p → p + d ≤ 900000 → d ≤ 4 → l.length + d ≤ 4 → (∀ x ∈ l, 0 ≤ x ∧ x ≤ 1000) →
    ∃ u p', Ev (fun k => spec_l20Word.l0 k c n l (d : Int) b p) (u, p') ∧ p ≤ p' ∧ p' ≤ p + d + 5 ∧ u.length ≤ 7 ∧ ∀ x ∈ u, 0 ≤ x ∧ x ≤ 1000 := by
  induction d with
  | zero =>
    intro l p hp0 hp _ hl2 hx
    obtain ⟨v, hv⟩ := odd_ev hb hp0 (by omega) n hn0 hn
    cases v with
    | false =>
      exact ⟨l, p + 1, Ev.step (fun _ => rfl) (ev_neg (by omega) (Ev.bind hv (Ev.now _))), by omega, by omega, by omega, hx⟩
    | true =>
      obtain ⟨w, hw, hw0, hw1⟩ := pick_ev hb (p := p + 1) (by omega) (by omega) 2 (by omega) (by omega)
      by_cases h0 : w = 0
      · refine ⟨l ++ [3], p + 1 + 1, Ev.step (fun _ => rfl) (ev_neg (by omega) (Ev.bind hv (Ev.bind hw (ev_pos h0 (ev_pos (by omega) (Ev.now _)))))), by omega, by omega, by simp; omega, fun x h => ?_⟩
        rcases List.mem_append.1 h with h | h
        · exact hx x h
        · have : x = 3 := by simpa using h
          omega
      · exact ⟨[0, 0, 0, 0, 0, 0, 0], p + 1 + 1, Ev.step (fun _ => rfl) (ev_neg (by omega) (Ev.bind hv (Ev.bind hw (ev_neg h0 (Ev.now _))))), by omega, by omega, by simp, fun x h => by simp at h; omega⟩
  | succ d ih =>
    intro l p hp0 hp hd hl2 hx
    obtain ⟨v, hv, hv0, hv1⟩ := pick_ev hb hp0 (by omega) (mx c 1) (by unfold mx; split <;> omega) (by unfold mx; split <;> omega)
    have hv2 : v ≤ 1000 := by
      have : mx c 1 ≤ 1000 := by unfold mx; split <;> omega
      omega
    obtain ⟨u, p', hu, h1, h2, h3, h4⟩ := ih (l ++ [v]) (p + 1) (by omega) (by omega) (by omega) (by simp; omega) (fun x h => by
      rcases List.mem_append.1 h with h | h
      · exact hx x h
      · have : x = v := by simpa using h
        omega)
    refine ⟨u, p', Ev.step (fun _ => rfl) (ev_pos (by omega) (Ev.bind hv (ev_pos (by omega) ?_))), by omega, by omega, h3, h4⟩
    rw [w64 (by omega) (by omega), show ((d + 1 : Nat) : Int) - 1 = (d : Int) from by omega]
    exact hu
theorem l20Word_ev {b : List Int} (hb : OkB b) {p : Int} (hp0 : 0 ≤ p) (hp : p ≤ 800000) (c n : Int) (hc : c ≤ 1000) (hn0 : 1 ≤ n) (hn : n ≤ 1000000) :
    ∃ u p', Ev (fun k => spec_l20Word.f k b p c n) (u, p') ∧ p ≤ p' ∧ p' ≤ p + 11 ∧ u.length ≤ 7 ∧ ∀ x ∈ u, 0 ≤ x ∧ x ≤ 1000 := by
  obtain ⟨v, hv, hv0, hv1⟩ := pick_ev hb hp0 (by omega) 5 (by omega) (by omega)
  obtain ⟨m, rfl⟩ := Int.eq_ofNat_of_zero_le hv0
  obtain ⟨u, p', hu, h1, h2, h3, h4⟩ := l20Word_loop hb c n hc hn0 hn m [] (p + 1) (by omega) (by omega) (by omega) (by simp; omega) (by simp)
  refine ⟨u, p', ?_, by omega, by omega, h3, h4⟩
  unfold spec_l20Word.f
  exact Ev.bind hv hu

theorem alive_ev : Ev (fun k => laws_alive.f k) true := by
  unfold laws_alive.f
  exact Ev.bind (implUrnOk_ev [1] (by simp)) (ev_pos (by decide) (Ev.bind (implUrnOk_ev [] (by simp)) (Ev.now _)))

theorem rdL_eq (xs : List (List Int)) (i : Int) : rd_L1 xs i = rowR xs i := rfl

theorem Clone_f (l : List Int) (hl : l.length ≤ 1000000000) : slices_Clone_int_int.f l = some l := by
  unfold slices_Clone_int_int.f
  simp only [Option.bind_some]
  rw [if_pos (by simp; omega)]; rfl

theorem implAdded_set (a b : List Int) (h : b.length = a.length) (i : Nat) (hi : i < b.length) : ((addL a b).take i ++ a.drop i).set i (rd ((addL a b).take i ++ a.drop i) (i : Int) + rd b (i : Int)) = (addL a b).take (i + 1) ++ a.drop (i + 1) := by
  have hl := addL_length a b h
  have e1 : ((addL a b).take i).length = i := by rw [List.length_take]; omega
  have e2 : rd ((addL a b).take i ++ a.drop i) (i : Int) = rd a (i : Int) := by
    rw [rd_nat _ i (by rw [List.length_append, e1, List.length_drop]; omega), rd_nat a i (by omega), List.getElem_append_right (by omega)]
    simp only [e1, Nat.sub_self, List.getElem_drop, Nat.add_zero]
  rw [e2, List.set_append_right _ _ (by omega), e1, Nat.sub_self, drop_rd a i (by omega), List.set_cons_zero, take_rd (addL a b) i (by omega), addL_rd a b i (by omega) h, List.append_assoc]
  rfl
theorem implAdded_loop (a b : List Int) (h : b.length = a.length) (hl : b.length ≤ 1000) (hb : ∀ i : Nat, i < b.length → -1000000 ≤ rd a i + rd b i ∧ rd a i + rd b i ≤ 1000000) (d : Nat) : ∀ i : Nat, i + d = b.length → Ev (fun k => impl_added.l0 k ((addL a b).take i ++ a.drop i) b (b.length : Int) (i : Int)) (addL a b) := by
  have hla := addL_length a b h
  induction d with
  | zero =>
    intro i hi
    refine Ev.step (fun _ => rfl) ?_
    refine ev_neg (by omega) (ev_eq (Ev.now _) ?_)
    rw [List.take_of_length_le (by omega), List.drop_eq_nil_of_le (by omega), List.append_nil]
  | succ d ih =>
    intro i hi
    refine Ev.step (fun _ => rfl) ?_
    refine ev_pos (by omega) (ev_pos (by omega) (ev_pos (by omega) (ev_pos (by rw [List.length_append, List.length_take, List.length_drop]; omega) ?_)))
    have e1 : ((addL a b).take i).length = i := by rw [List.length_take]; omega
    have e2 : rd ((addL a b).take i ++ a.drop i) (i : Int) = rd a (i : Int) := by
      rw [rd_nat _ i (by rw [List.length_append, e1, List.length_drop]; omega), rd_nat a i (by omega), List.getElem_append_right (by omega)]
      simp only [e1, Nat.sub_self, List.getElem_drop, Nat.add_zero]
    have hbi := hb i (by omega)
    rw [w64n i (by omega), w64 (by rw [e2]; omega) (by rw [e2]; omega), show ((i : Int)).toNat = i from by simp, implAdded_set a b h i (by omega)]
    exact ih (i + 1) (by omega)
theorem implAdded_ev (a b : List Int) (h : b.length = a.length) (hl : b.length ≤ 1000) (hb : ∀ i : Nat, i < b.length → -1000000 ≤ rd a i + rd b i ∧ rd a i + rd b i ≤ 1000000) : Ev (fun k => impl_added.f k a b) (addL a b) := by
  unfold impl_added.f
  rw [Clone_f a (by omega)]
  refine Ev.bind (Ev.now _) ?_
  have := implAdded_loop a b h hl hb b.length 0 (by omega)
  simpa using this

theorem implAfter_loop {B : Int} (c : Nat) (r : List (List Int)) (hr : RuleK c r) (u w : List Int) (hn : Near B c 0 u) (hw : ∀ q ∈ w, 0 ≤ q ∧ q < (c : Int)) (hl : w.length ≤ 6) (d : Nat) : ∀ i : Nat, i + d = w.length → Ev (fun k => impl_after.l0 k r (afterL r u (w.take i)) w (w.length : Int) (i : Int)) (afterL r u w) := by
  induction d with
  | zero =>
    intro i hi
    refine Ev.step (fun _ => rfl) ?_
    refine ev_neg (by omega) (ev_eq (Ev.now _) ?_)
    rw [List.take_of_length_le (by omega)]
  | succ d ih =>
    intro i hi
    refine Ev.step (fun _ => rfl) ?_
    have hq := hw _ (rd_mem w i (by omega))
    refine ev_pos (by omega) (ev_pos (by omega) (ev_pos (by omega) (ev_pos hq.1 (ev_pos (by rw [hr.len]; exact hq.2) ?_))))
    have ha := near_after hr (w.take i) 0 u hn (fun q h => hw q (List.mem_of_mem_take h))
    have hb := near_step ha hr _ hq.1 hq.2
    have hlt : (w.take i).length ≤ 6 := by rw [List.length_take]; omega
    obtain ⟨m, hm⟩ := Int.eq_ofNat_of_zero_le hq.1
    rw [rdL_eq]
    refine Ev.bind (implAdded_ev _ _ (by rw [hm, hr.rows m (by omega), ha.1]) (by rw [hm, hr.rows m (by omega)]; have := hr.c3; omega) ?_) ?_
    · intro j hj
      rw [hm, hr.rows m (by omega)] at hj
      have h1 := ha.2.1 j hj; have h5 := ha.2.2; have h2 := hr.ent m j (by omega) hj
      rw [hm]; omega
    · rw [← afterL_snoc, ← take_rd w i (by omega), w64n i (by omega)]
      exact ih (i + 1) (by omega)
theorem implAfter_ev {B : Int} (c : Nat) (r : List (List Int)) (hr : RuleK c r) (u w : List Int) (hn : Near B c 0 u) (hw : ∀ q ∈ w, 0 ≤ q ∧ q < (c : Int)) (hl : w.length ≤ 6) : Ev (fun k => impl_after.f k u r w) (afterL r u w) := by
  unfold impl_after.f
  rw [Clone_f u (by rw [hn.1]; have := hr.c3; omega)]
  exact Ev.bind (Ev.now _) (implAfter_loop c r hr u w hn hw hl w.length 0 (by omega))

theorem implruleWays_loop {B : Int} (c : Nat) (r : List (List Int)) (hr : RuleK c r) (u w : List Int) (hn : Near B c 0 u) (hw : ∀ q ∈ w, 0 ≤ q ∧ q < (c : Int)) (hl : w.length ≤ 6) (d : Nat) : ∀ i : Nat, i + d = w.length → Ev (fun k => impl_ruleWays.l0 k u r w (waysL r u (w.take i)) w (w.length : Int) (i : Int)) (waysL r u w) := by
  induction d with
  | zero =>
    intro i hi
    refine Ev.step (fun _ => rfl) ?_
    refine ev_neg (by omega) (ev_eq (Ev.now _) ?_)
    rw [List.take_of_length_le (by omega)]
  | succ d ih =>
    intro i hi
    refine Ev.step (fun _ => rfl) ?_
    have hq := hw _ (rd_mem w i (by omega))
    have hwt : ∀ (n : Nat) (q : Int), q ∈ w.take n → 0 ≤ q ∧ q < (c : Int) := fun n q h => hw q (List.mem_of_mem_take h)
    have ha := near_after hr (w.take i) 0 u hn (hwt i)
    refine ev_pos (by omega) (ev_pos (by omega) (ev_pos (by omega) (ev_pos (by omega) ?_)))
    rw [show ((i : Int)).toNat = i from by simp]
    refine Ev.bind (implAfter_ev c r hr u (w.take i) hn (hwt i) (by rw [List.length_take]; omega)) ?_
    refine ev_pos hq.1 (ev_pos (by rw [ha.1]; exact hq.2) ?_)
    have e := waysL_snoc r (w.take i) u (rd w (i : Int))
    rw [← take_rd w i (by omega)] at e
    have hb := waysL_bound' hr (w.take (i + 1)) u hn (by rw [List.length_take]; omega) (hwt (i + 1))
    rw [← e, w64 (x := waysL r u (w.take (i + 1))) (by omega) (by omega), w64n i (by omega)]
    by_cases h0 : waysL r u (w.take (i + 1)) = 0
    · refine ev_pos h0 (ev_eq (Ev.now _) ?_)
      have := waysL_append r (w.take (i + 1)) (w.drop (i + 1)) u
      rw [List.take_append_drop, h0, Int.zero_mul] at this
      exact this.symm
    · exact ev_neg h0 (ih (i + 1) (by omega))
theorem implruleWays_ev {B : Int} (c : Nat) (r : List (List Int)) (hr : RuleK c r) (u w : List Int) (hn : Near B c 0 u) (hw : ∀ q ∈ w, 0 ≤ q ∧ q < (c : Int)) (hl : w.length ≤ 6) : Ev (fun k => impl_ruleWays.f k u r w) (waysL r u w) := by
  unfold impl_ruleWays.f
  exact implruleWays_loop c r hr u w hn hw hl w.length 0 (by omega)

theorem implSameRule_loop (c : Nat) (s : Int) (hc : c ≤ 3) (d : Nat) : ∀ i : Nat, i + d = c → Ev (fun k => impl_SameRule.l0 k (c : Int) s (sameL c s i) (c : Int) (i : Int)) (sameL c s c) := by
  induction d with
  | zero =>
    intro i hi
    refine Ev.step (fun _ => rfl) ?_
    refine ev_neg (by omega) (ev_eq (Ev.now _) ?_)
    rw [show i = c by omega]
  | succ d ih =>
    intro i hi
    refine Ev.step (fun _ => rfl) ?_
    refine ev_pos (by omega) (ev_pos (by omega) (ev_pos (by omega) (Ev.bind (Ev.now _) (ev_pos (by omega) (ev_pos (by simp; omega) (ev_pos (by rw [sameL_length]; omega) ?_))))))
    rw [w64n i (by omega)]
    exact ih (i + 1) (by omega)
theorem implSameRule_ev (c s : Int) : Ev (fun k => impl_SameRule.f k c s) (sameP c s) := by
  have no : Ev (fun k => impl_SameRule.j0 k c s true) [] := Ev.step (fun _ => rfl) (Ev.now _)
  unfold impl_SameRule.f sameP
  rw [coloursOk_f]
  refine Ev.bind (Ev.now _) ?_
  by_cases h : 1 ≤ c ∧ c ≤ 3
  · refine ev_pos (by simp [colB, h]) ?_
    by_cases h1 : s < -1
    · refine ev_pos h1 ?_
      rw [if_neg (by omega)]; exact no
    refine ev_neg h1 ?_
    by_cases h2 : s > 3
    · rw [decide_eq_true h2, if_neg (by omega)]; exact no
    · rw [decide_eq_false h2, if_pos ⟨h, by omega, by omega⟩]
      obtain ⟨m, rfl⟩ := Int.eq_ofNat_of_zero_le (show 0 ≤ c by omega)
      exact Ev.step (fun _ => rfl) (implSameRule_loop m s (by omega) m 0 (by omega))
  · refine ev_neg (by simp [colB]; omega) ?_
    rw [if_neg (fun hh => h hh.1)]; exact no

theorem implWordWays_ev (u w : List Int) (hu : u.length ≤ 1000000000) (hw : w.length ≤ 1000000000) : Ev (fun k => impl_WordWays.f k u w) (wwP u w) := by
  have no : Ev (fun k => impl_WordWays.j0 k u w true) (-1) := Ev.step (fun _ => rfl) (Ev.now _)
  unfold impl_WordWays.f wwP
  refine Ev.bind (implUrnOk_ev u hu) ?_
  by_cases h : urnB u = true
  · refine ev_pos h (Ev.bind (implWordOk_ev _ w hw) ?_)
    cases h4 : wordB u.length w with
    | false => rw [if_neg (fun hh => by cases hh.2)]; exact no
    | true =>
      rw [if_pos ⟨h, rfl⟩]
      obtain ⟨h1, h2, h3⟩ := urnB_bounds h
      obtain ⟨h5, h6, h7, h8⟩ := wordB_bounds h4
      have hs := implSameRule_ev (u.length : Int) (-1)
      unfold sameP at hs
      rw [if_pos (by omega), Int.toNat_natCast] at hs
      have hk := (ruleB_known (same_rule u.length (-1) h2 h3 (by omega) (by omega)).1).1
      rw [Int.toNat_natCast] at hk
      exact Ev.step (fun _ => rfl) (Ev.bind hs (Ev.bind (implruleWays_ev _ _ hk u w (near_urn h) h5 h8) (Ev.now _)))
  · refine ev_neg h ?_
    rw [if_neg (fun hh => h hh.1)]; exact no

theorem l20Drawn_ev {b : List Int} (hb : OkB b) {p : Int} (hp0 : 0 ≤ p) (hp : p ≤ 700000) : ∃ u w p', Ev (fun k => spec_l20Drawn.f k b p) (u, w, p') ∧ u.length ≤ 4 ∧ w.length ≤ 7 := by
  obtain ⟨u, p1, hu, a1, a2, a3, a4⟩ := l20Urn_ev hb hp0 (by omega) 14 (by omega) (by omega)
  obtain ⟨w, p3, hw, c1, c2, c3, c4⟩ := l20Word_ev hb (p := p1) (by omega) (by omega) (u.length : Int) 14 (by omega) (by omega) (by omega)
  refine ⟨u, w, p3, ?_, a3, c3⟩
  unfold spec_l20Drawn.f
  exact Ev.bind hu (Ev.bind hw (Ev.now _))

theorem DrawBackWays_ev (l : List Int) (hb : ∀ x ∈ l, (Lit.int .u8 x).wf = true) : ∃ u w, Ev (fun k => spec_DrawBackWays.f k l) (u, w) ∧ u.length ≤ 4 ∧ w.length ≤ 7 := by
  obtain ⟨b, hf, hk⟩ := l20Open_f l hb
  obtain ⟨u, w, p', h, h1, h4⟩ := l20Drawn_ev hk (p := 0) (by omega) (by omega)
  refine ⟨u, w, ?_, h1, h4⟩
  unfold spec_DrawBackWays.f
  rw [hf]
  exact Ev.bind (Ev.now _) (Ev.bind h (Ev.now _))

theorem FnBackWays_loop (u w : List Int) (hu : urnB u = true) (hw : wordB u.length w = true) (d : Nat) : ∀ i : Nat, i + d = w.length → Ev (fun k => laws_FnBackWays.l0 k u w (prodF (rd u) w) ((w.take i).reverse) (i : Int)) true := by
  obtain ⟨b1, b2, b3⟩ := urnB_bounds hu
  obtain ⟨w1, w2, w3, w4⟩ := wordB_bounds hw
  have sub : ∀ v : List Int, v.length ≤ 6 → (∀ q ∈ v, q ∈ w) → Ev (fun k => impl_BackWays.f k u v) (prodF (rd u) v) := fun v hv hm => by
    have := implBackWays_ev u v (by omega) (by omega)
    rw [if_pos ⟨hu, by
      simp only [wordB, colB, Bool.and_eq_true, List.all_eq_true, decide_eq_true_eq]
      exact ⟨fun q hq => w1 q (hm q hq), by omega, by omega⟩⟩] at this
    exact this
  induction d with
  | zero =>
    intro i hi
    refine Ev.step (fun _ => rfl) ?_
    rw [List.take_of_length_le (by omega)]
    have hd : wrap64 ((w.length : Int) / 2) = ((w.length / 2 : Nat) : Int) := by rw [w64 (by omega) (by omega)]; simp
    have hh : w.length / 2 ≤ w.length := Nat.div_le_self _ _
    refine ev_neg (by omega) ?_
    rw [hd, Int.toNat_natCast]
    have s1 := sub (w.take (w.length / 2)) (by rw [List.length_take]; omega) (fun q hq => List.mem_of_mem_take hq)
    have s2 := sub (w.drop (w.length / 2)) (by rw [List.length_drop]; omega) (fun q hq => List.mem_of_mem_drop hq)
    have s3 := sub w.reverse (by simp; omega) (fun q hq => by simpa using hq)
    rw [prodF_reverse] at s3
    have e : prodF (rd u) (w.take (w.length / 2)) * prodF (rd u) (w.drop (w.length / 2)) = prodF (rd u) w := by rw [← prodF_append, List.take_append_drop]
    have hb := prodF_bound' (rd u) 40 (by omega) (by omega) w w4 (fun x hx => b1 _ (rd_range u x (w1 x hx).1 (w1 x hx).2))
    have hww := implWordWays_ev u w (by omega) (by omega)
    unfold wwP at hww
    rw [if_pos ⟨hu, hw⟩] at hww
    have hle := same_le u.length w u u rfl w1 (fun i hi => by have := b1 _ (rd_mem u i hi); rw [mx_r 0 _ this.1]; omega)
    refine ev_pos (by omega) (ev_pos (by omega) (Ev.bind s1 (Ev.bind s2 (ev_pos ?_ (Ev.bind s3 (ev_pos rfl (Ev.bind hww (ev_eq (Ev.now _) (decide_eq_true hle)))))))))
    rw [e, w64 (by omega) (by omega)]
  | succ d ih =>
    intro i hi
    refine Ev.step (fun _ => rfl) ?_
    refine ev_pos (by omega) (ev_pos (by omega) (Ev.bind (Ev.now _) (ev_pos (by simp; omega) ?_)))
    have e : [rd w (i : Int)] ++ (w.take i).reverse = (w.take (i + 1)).reverse := by rw [take_rd w i (by omega), List.reverse_append]; rfl
    rw [e, w64n i (by omega)]
    exact ih (i + 1) (by omega)
theorem FnBackWays : laws_FnBackWays.Pure := by
  intro l hl0 _ hb
  refine Ev.rounds (g := fun k => laws_FnBackWays.f k l) ?_
  unfold laws_FnBackWays.f
  by_cases h : (l.length : Int) > 1048576
  · exact ev_pos h (Ev.now _)
  refine ev_neg h ?_
  obtain ⟨u, w, hd, hl, hlw⟩ := DrawBackWays_ev l hb
  refine Ev.bind hd (Ev.bind (implBackWays_ev u w (by omega) (by omega)) (Ev.bind (specBackWays_ev u w (by omega) (by omega)) (ev_pos rfl ?_)))
  by_cases hc : urnB u = true ∧ wordB u.length w = true
  · rw [if_pos hc]
    obtain ⟨b1, b2, b3⟩ := urnB_bounds hc.1
    obtain ⟨w1, w2, w3, w4⟩ := wordB_bounds hc.2
    have hb := prodF_bound' (rd u) 40 (by omega) (by omega) w w4 (fun x hx => b1 _ (rd_range u x (w1 x hx).1 (w1 x hx).2))
    exact ev_neg (by omega) (FnBackWays_loop u w hc.1 hc.2 w.length 0 (by omega))
  · rw [if_neg hc]
    exact ev_pos (by omega) (ev_pos rfl (Ev.bind alive_ev (Ev.now _)))

end Go.Proofs.Ytlakokejoifamaa.Pure
