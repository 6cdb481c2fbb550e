/- The law FnCountRowOk: for every input the printed function of the law answers true. No condition. -/
import Derived.Test.YtieiflieppmboaaPFnCountRowOkx2
import Derived.Test.YtieiflieppmboaaPlain
set_option linter.unusedVariables false
set_option linter.unusedSimpArgs false
namespace Go.Proofs.Ytieiflieppmboaa.Pure
open Go.RowKit Go.Proofs.Ytieiflieppmboaa.PFnCountRowOk Go.Proofs.YtieiflieppmboaaW.PrintWords Go.Proofs.YtieiflieppmboaaW.PrintLast Go.Proofs.YtieiflieppmboaaW.PrintMore Go.Proofs.Ytieiflieppmboaa.Plain

theorem l1In_f (x a b : Int) : spec_l1In.f x a b = some (inB x a b) := by
  unfold spec_l1In.f inB
  by_cases h : x ≥ a
  · rw [if_pos h]; congr 1; simp [h]
  · rw [if_neg h]; congr 1; simp; omega

theorem coloursOk_f (x : Int) : impl_coloursOk.f x = some (colB x) := by
  unfold impl_coloursOk.f colB
  by_cases h : x ≥ 1
  · rw [if_pos h]; congr 1; simp [h]
  · rw [if_neg h]; congr 1; simp; omega

theorem implUrnOk_loop (l : List Int) (hl : l.length ≤ 1000000000) (d : Nat) : ∀ i : Nat, i + d = l.length → Ev (fun k => impl_UrnOk.l0 k l l (l.length : Int) (i : Int)) ((l.drop i).all urnE && colB l.length) := by
  induction d with
  | zero =>
    intro i hi
    refine Ev.step (fun _ => rfl) ?_
    refine ev_neg (by omega) ?_
    rw [coloursOk_f, List.drop_eq_nil_of_le (by omega)]
    exact Ev.now _
  | succ d ih =>
    intro i hi
    refine Ev.step (fun _ => rfl) ?_
    refine ev_pos (by omega) (ev_pos (by omega) (ev_pos (by omega) ?_))
    rw [drop_rd l i (by omega), List.all_cons]
    by_cases h1 : rd l (i : Int) < 0
    · refine ev_pos h1 (ev_eq (Ev.now _) ?_)
      rw [show urnE (rd l (i : Int)) = false from by simp [urnE]; omega]; rfl
    · refine ev_neg h1 ?_
      by_cases h2 : rd l (i : Int) > 40
      · refine ev_pos h2 (ev_eq (Ev.now _) ?_)
        rw [show urnE (rd l (i : Int)) = false from by simp [urnE]; omega]; rfl
      · refine ev_neg h2 ?_
        rw [w64n i (by omega), show urnE (rd l (i : Int)) = true from by simp [urnE]; omega, Bool.true_and]
        exact ih (i + 1) (by omega)
theorem implUrnOk_ev (l : List Int) (hl : l.length ≤ 1000000000) : Ev (fun k => impl_UrnOk.f k l) (urnB l) := by
  unfold impl_UrnOk.f
  exact implUrnOk_loop l hl l.length 0 (by omega)

theorem l1Total_loop (l : List Int) (hl : l.length ≤ 1000) (B : Int) (hB : 0 ≤ B) (hB2 : B ≤ 1000000000) (hb : ∀ x ∈ l, -B ≤ x ∧ x ≤ B) (d : Nat) : ∀ i : Nat, i + d = l.length → Ev (fun k => spec_l1Total.l0 k l (tot (l.take i)) (i : Int)) (tot l) := by
  induction d with
  | zero =>
    intro i hi
    refine Ev.step (fun _ => rfl) ?_
    refine ev_neg (by omega) (ev_eq (Ev.now _) ?_)
    rw [List.take_of_length_le (by omega)]
  | succ d ih =>
    intro i hi
    refine Ev.step (fun _ => rfl) ?_
    refine ev_pos (by omega) (ev_pos (by omega) ?_)
    have h1 := tot_abs (l.take i) B hB (fun x hx => hb x (List.mem_of_mem_take hx))
    have h2 := hb _ (rd_mem l i (by omega))
    have h3 : ((l.take i).length : Int) * B ≤ 1000 * 1000000000 := (mulb (by omega) (by rw [List.length_take]; omega) hB hB2).2
    have h4 : tot (l.take i) + rd l (i : Int) = tot (l.take (i + 1)) := by rw [take_rd l i (by omega), tot_append]; simp [tot]
    rw [w64n i (by omega), w64 (by omega) (by omega), h4]
    exact ih (i + 1) (by omega)
theorem l1Total_ev (l : List Int) (hl : l.length ≤ 1000) (hb : ∀ x ∈ l, -1000000000 ≤ x ∧ x ≤ 1000000000) : Ev (fun k => spec_l1Total.f k l) (tot l) := by
  unfold spec_l1Total.f
  exact l1Total_loop l hl 1000000000 (by omega) (by omega) hb l.length 0 (by omega)

theorem implCountRowOk_loop (c : Int) (l : List Int) (hl : l.length ≤ 1000000000) (d : Nat) : ∀ (i : Nat) (n : Int), 0 ≤ n → n ≤ 6 → i + d = l.length → Ev (fun k => impl_CountRowOk.l0 k c l n l (l.length : Int) (i : Int)) (cntL n (l.drop i) && (colB c && decide ((l.length : Int) = c))) := by
  induction d with
  | zero =>
    intro i n hn0 hn hi
    refine Ev.step (fun _ => rfl) ?_
    refine ev_neg (by omega) ?_
    rw [coloursOk_f, List.drop_eq_nil_of_le (by omega)]
    cases h : colB c
    · exact Ev.now _
    · refine ev_eq (Ev.now _) ?_
      simp [cntL]; rfl
  | succ d ih =>
    intro i n hn0 hn hi
    refine Ev.step (fun _ => rfl) ?_
    refine ev_pos (by omega) (ev_pos (by omega) (ev_pos (by omega) ?_))
    rw [drop_rd l i (by omega), cntL]
    by_cases h1 : rd l (i : Int) < 0
    · refine ev_pos h1 (ev_eq (Ev.now _) ?_)
      rw [show decide (0 ≤ rd l (i : Int) ∧ rd l (i : Int) ≤ n) = false from by simp; omega]; rfl
    · refine ev_neg h1 ?_
      by_cases h2 : rd l (i : Int) > n
      · refine ev_pos h2 (ev_eq (Ev.now _) ?_)
        rw [show decide (0 ≤ rd l (i : Int) ∧ rd l (i : Int) ≤ n) = false from by simp; omega]; rfl
      · refine ev_neg h2 ?_
        rw [w64n i (by omega), w64 (by omega) (by omega), show decide (0 ≤ rd l (i : Int) ∧ rd l (i : Int) ≤ n) = true from by simp; omega, Bool.true_and]
        exact ih (i + 1) _ (by omega) (by omega) (by omega)
theorem implCountRowOk_ev (c : Int) (l : List Int) (hl : l.length ≤ 1000000000) : Ev (fun k => impl_CountRowOk.f k c l) (cntB c l) := by
  unfold impl_CountRowOk.f
  exact implCountRowOk_loop c l hl l.length 0 6 (by omega) (by omega) (by omega)

theorem specCountRowOk_loop (c : Int) (l : List Int) (hl : l.length ≤ 1000000000) (d : Nat) : ∀ i : Nat, i + d = l.length → (∀ x ∈ l.take i, 0 ≤ x ∧ x ≤ 6) → Ev (fun k => spec_CountRowOk.l0 k c l (i : Int)) ((l.drop i).all (fun x => inB x 0 6) && (colB c && (decide ((l.length : Int) = c) && decide (tot l ≤ 6)))) := by
  induction d with
  | zero =>
    intro i hi hx
    refine Ev.step (fun _ => rfl) ?_
    refine ev_neg (by omega) ?_
    rw [l1In_f, List.drop_eq_nil_of_le (by omega), show inB c 1 3 = colB c from rfl]
    cases h : colB c
    · exact Ev.now _
    · simp only [Option.bind_some, if_true, List.all_nil, Bool.true_and]
      by_cases h1 : (l.length : Int) = c
      · refine ev_pos h1 ?_
        have hc : 1 ≤ c ∧ c ≤ 3 := by simpa [colB] using h
        rw [List.take_of_length_le (by omega)] at hx
        refine ev_eq (Ev.bind (l1Total_ev l (by omega) (fun x hx' => by have := hx x hx'; omega)) (Ev.now _)) ?_
        simp [h1]
      · refine ev_neg h1 (ev_eq (Ev.now _) ?_)
        simp [h1]
  | succ d ih =>
    intro i hi hx
    refine Ev.step (fun _ => rfl) ?_
    refine ev_pos (by omega) (ev_pos (by omega) ?_)
    rw [drop_rd l i (by omega), List.all_cons, l1In_f]
    cases h : inB (rd l (i : Int)) 0 6 with
    | false => exact Ev.now _
    | true =>
      simp only [Option.bind_some, if_true, Bool.true_and]
      rw [w64n i (by omega)]
      refine ih (i + 1) (by omega) ?_
      intro x hx'
      rw [take_rd l i (by omega)] at hx'
      rcases List.mem_append.1 hx' with hx' | hx'
      · exact hx x hx'
      · have e : x = rd l (i : Int) := by simpa using hx'
        subst e
        simpa [inB] using h
theorem specCountRowOk_ev (c : Int) (l : List Int) (hl : l.length ≤ 1000000000) : Ev (fun k => spec_CountRowOk.f k c l) (cntB c l) := by
  unfold spec_CountRowOk.f
  rw [← cntS_eq]
  exact specCountRowOk_loop c l hl l.length 0 (by omega) (by simp)

theorem l20Open_f (l : List Int) (hb : ∀ x ∈ l, (Lit.int .u8 x).wf = true) : ∃ b, spec_l20Open.f l = some (b, 0) ∧ OkB b := by
  unfold spec_l20Open.f
  by_cases h : (l.length : Int) > 2000
  · rw [if_pos h, if_pos (by omega)]
    exact ⟨_, rfl, fun x hx => u8_wf (hb x (List.mem_of_mem_take hx)), by rw [List.length_take]; omega⟩
  · rw [if_neg h]
    exact ⟨_, rfl, fun x hx => u8_wf (hb x hx), by omega⟩

theorem pick_ev {b : List Int} (hb : OkB b) {p : Int} (hp0 : 0 ≤ p) (hp : p ≤ 1000000) (n : Int) (hn0 : 1 ≤ n) (hn : n ≤ 1000000) : ∃ v, Ev (fun k => spec_l20Rd_pick.f k b p n) (v, p + 1) ∧ 0 ≤ v ∧ v < n := by
  obtain ⟨hb1, hb2⟩ := hb
  unfold spec_l20Rd_pick.f
  have e1 : wrap64 (p + 1) = p + 1 := w64 (by omega) (by omega)
  by_cases h0 : b.length = 0
  · refine ⟨0, ev_neg (by omega) ?_, by omega, by omega⟩
    rw [show ((b.length : Int) == 0) = true from by simp [h0], e1]
    exact Ev.step (fun _ => rfl) (Ev.now _)
  · have hz : ((b.length : Int) == 0) = false := by simp; intro hh; exact h0 (by simp [hh])
    have hat : ∀ i : Int, 0 ≤ i → i < b.length → 0 ≤ rd b i ∧ rd b i ≤ 255 := fun i h1 h2 => hb1 _ (rd_range b i h1 h2)
    have e2 : wrap64 (p + 1 - 1) = p := by rw [show p + 1 - 1 = p by omega]; exact w64 (by omega) (by omega)
    by_cases h1 : p < (b.length : Int)
    · have hr := hat p hp0 h1
      have ht := tmod_range (rd b p) n hr.1 (by omega)
      refine ⟨Int.tmod (rd b p) n, ev_neg (by omega) ?_, ht.1, ht.2⟩
      rw [hz, e1]
      refine Ev.step (fun _ => by rw [spec_l20Rd_pick.j0]) (ev_neg (by simp) ?_)
      rw [e2, w64 (x := rd b p) (by omega) (by omega)]
      exact ev_pos h1 (ev_pos hp0 (ev_neg (by omega) (Ev.now _)))
    · have m1 := tmod_range p (b.length : Int) hp0 (by omega)
      have e3 : wrap64 (p * 7) = p * 7 := w64 (by omega) (by omega)
      have e4 : wrap64 (p * 7 + 3) = p * 7 + 3 := w64 (by omega) (by omega)
      have m2 := tmod_range (p * 7 + 3) (b.length : Int) (by omega) (by omega)
      have r1 := hat _ m1.1 m1.2
      have r2 := hat _ m2.1 m2.2
      have d1 := tdiv_range p (b.length : Int) hp0 (by omega)
      have key : ∀ x y z : Int, 0 ≤ x → x ≤ 255 → 0 ≤ y → y ≤ 255 → 0 ≤ z → z ≤ 1000000 →
          wrap64 (wrap64 (wrap64 (wrap64 (wrap64 x * 131) + wrap64 (wrap64 y * 1117)) + wrap64 (p * 29)) + wrap64 (wrap64 z * 53)) = x * 131 + y * 1117 + p * 29 + z * 53 := by
        intro x y z _ _ _ _ _ _
        rw [w64 (x := x) (by omega) (by omega), w64 (x := y) (by omega) (by omega), w64 (x := z) (by omega) (by omega), w64 (x := x * 131) (by omega) (by omega), w64 (x := y * 1117) (by omega) (by omega), w64 (x := p * 29) (by omega) (by omega), w64 (x := z * 53) (by omega) (by omega),
          w64 (x := x * 131 + y * 1117) (by omega) (by omega), w64 (x := x * 131 + y * 1117 + p * 29) (by omega) (by omega), w64 (by omega) (by omega)]
      obtain ⟨X, hX, hX0, hX1⟩ : ∃ X, wrap64 (wrap64 (wrap64 (wrap64 (wrap64 (rd b (Int.tmod p b.length)) * 131) + wrap64 (wrap64 (rd b (Int.tmod (p * 7 + 3) b.length)) * 1117)) + wrap64 (p * 29)) + wrap64 (wrap64 (Int.tdiv p b.length) * 53)) = X ∧ 0 ≤ X ∧ X ≤ 100000000 :=
        ⟨_, key _ _ _ r1.1 r1.2 r2.1 r2.2 d1.1 (by omega), by omega, by omega⟩
      have d2 := tdiv_range X 64 hX0 (by omega)
      have hx := xor_nonneg X (Int.tdiv X 64) hX0 (by omega) d2.1 (by omega)
      have ht := tmod_range _ n hx (by omega)
      refine ⟨Int.tmod (Go.bits .xor .i64 X (Int.tdiv X 64)) n, ev_neg (by omega) ?_, ht.1, ht.2⟩
      rw [hz, e1]
      refine Ev.step (fun _ => by rw [spec_l20Rd_pick.j0]) (ev_neg (by simp) ?_)
      rw [e2, e3, e4, hX, w64 (x := Int.tdiv X 64) (by omega) (by omega)]
      exact ev_neg h1 (ev_neg (by omega) (ev_pos m1.1 (ev_pos m1.2 (ev_pos m2.1 (ev_pos m2.2 (ev_neg (by omega) (Ev.now _)))))))

theorem l20Counts_loop {b : List Int} (hb : OkB b) (c : Nat) (hc : c ≤ 4) (d : Nat) : ∀ (i : Nat) (l : List Int) (p : Int), 0 ≤ p → p ≤ 900000 - 10 * (5 - i) → i + d = c + 1 → l.length = i → (∀ x ∈ l, -1000 ≤ x ∧ x ≤ 1000) →
    ∃ u p', Ev (fun k => spec_l20Counts.l0 k (c : Int) l (i : Int) b p) (u, p') ∧ p ≤ p' ∧ p' ≤ p + 4 * d + 1 ∧ u.length ≤ 5 ∧ ∀ x ∈ u, -1000 ≤ x ∧ x ≤ 1000 := by
  induction d with
  | zero =>
    intro i l p hp0 hp hi hl hx
    obtain ⟨v, hv, hv0, hv1⟩ := pick_ev hb hp0 (by omega) 30 (by omega) (by omega)
    refine ⟨l, p + 1, Ev.step (fun _ => rfl) (Ev.bind hv (ev_neg ?_ (Ev.now _))), by omega, by omega, by omega, hx⟩
    have := Int.tdiv_eq_ediv_of_nonneg (b := 29) hv0
    simp only
    rw [this, w64 (x := v / 29) (by omega) (by omega), w64 (by omega) (by omega)]
    omega
  | succ d ih =>
    intro i l p hp0 hp hi hl hx
    obtain ⟨v, hv, hv0, hv1⟩ := pick_ev hb hp0 (by omega) 30 (by omega) (by omega)
    by_cases hlt : (i : Int) < wrap64 ((c : Int) + wrap64 (Int.tdiv v 29))
    · obtain ⟨v1, hv1, a1, a2⟩ := pick_ev hb (p := p + 1) (by omega) (by omega) 3 (by omega) (by omega)
      obtain ⟨v2, hv2, a3, a4⟩ := pick_ev hb (p := p + 1 + 1) (by omega) (by omega) 12 (by omega) (by omega)
      obtain ⟨v3, hv3, a5, a6⟩ := pick_ev hb (p := p + 1 + 1 + 1) (by omega) (by omega) 60 (by omega) (by omega)
      have e2 := tdiv_range v2 11 a3 (by omega)
      have e3 := tdiv_range v3 59 a5 (by omega)
      have e : wrap64 (wrap64 (v1 + wrap64 (wrap64 (Int.tdiv v2 11) * 3)) - wrap64 (wrap64 (Int.tdiv v3 59) * 3)) = v1 + Int.tdiv v2 11 * 3 - Int.tdiv v3 59 * 3 := by
        rw [w64 (x := Int.tdiv v2 11) (by omega) (by omega), w64 (x := Int.tdiv v3 59) (by omega) (by omega), w64 (x := Int.tdiv v2 11 * 3) (by omega) (by omega), w64 (x := Int.tdiv v3 59 * 3) (by omega) (by omega), w64 (x := v1 + Int.tdiv v2 11 * 3) (by omega) (by omega), w64 (by omega) (by omega)]
      obtain ⟨u, p', hu, h1, h2, h3, h4⟩ := ih (i + 1) (l ++ [v1 + Int.tdiv v2 11 * 3 - Int.tdiv v3 59 * 3]) (p + 1 + 1 + 1 + 1) (by omega) (by omega) (by omega) (by simp; omega) (fun x h => by
        rcases List.mem_append.1 h with h | h
        · exact hx x h
        · have : x = v1 + Int.tdiv v2 11 * 3 - Int.tdiv v3 59 * 3 := by simpa using h
          omega)
      refine ⟨u, p', Ev.step (fun _ => rfl) (Ev.bind hv (ev_pos hlt (Ev.bind hv1 (Ev.bind hv2 (Ev.bind hv3 (ev_pos (by omega) ?_)))))), by omega, by omega, h3, h4⟩
      simp only
      rw [e, w64n i (by omega)]
      exact hu
    · exact ⟨l, p + 1, Ev.step (fun _ => rfl) (Ev.bind hv (ev_neg hlt (Ev.now _))), by omega, by omega, by omega, hx⟩
theorem l20Counts_ev {b : List Int} (hb : OkB b) {p : Int} (hp0 : 0 ≤ p) (hp : p ≤ 800000) (c : Nat) (hc : c ≤ 4) :
    ∃ u p', Ev (fun k => spec_l20Counts.f k b p c) (u, p') ∧ p ≤ p' ∧ p' ≤ p + 30 ∧ u.length ≤ 5 ∧ ∀ x ∈ u, -1000 ≤ x ∧ x ≤ 1000 := by
  obtain ⟨u, p', hu, h1, h2, h3, h4⟩ := l20Counts_loop hb c hc (c + 1) 0 [] p hp0 (by omega) (by omega) rfl (by simp)
  exact ⟨u, p', hu, by omega, by omega, h3, h4⟩

theorem DrawCountRowOk_ev (l : List Int) (hb : ∀ x ∈ l, (Lit.int .u8 x).wf = true) : ∃ c w, Ev (fun k => spec_DrawCountRowOk.f k l) (c, w) ∧ w.length ≤ 5 := by
  obtain ⟨b, hf, hk⟩ := l20Open_f l hb
  obtain ⟨v1, e1, a1, b1⟩ := pick_ev hk (p := 0) (by omega) (by omega) 3 (by omega) (by omega)
  obtain ⟨v2, e2, a2, b2⟩ := pick_ev hk (p := 0 + 1) (by omega) (by omega) 20 (by omega) (by omega)
  obtain ⟨m, rfl⟩ := Int.eq_ofNat_of_zero_le a1
  obtain ⟨w, p', hw, _, _, h3, _⟩ := l20Counts_ev hk (p := 0 + 1 + 1) (by omega) (by omega) (1 + m) (by omega)
  rw [show ((1 + m : Nat) : Int) = wrap64 (1 + (m : Int)) from by rw [w64 (by omega) (by omega)]; omega] at hw
  exact ⟨_, w, by
    unfold spec_DrawCountRowOk.f
    rw [hf]
    exact Ev.bind (Ev.now _) (Ev.bind e1 (Ev.bind e2 (Ev.bind hw (Ev.now _)))), h3⟩

theorem alive_ev : Ev (fun k => laws_alive.f k) true := by
  unfold laws_alive.f
  exact Ev.bind (implUrnOk_ev [1] (by simp)) (ev_pos (by decide) (Ev.bind (implUrnOk_ev [] (by simp)) (Ev.now _)))

theorem FnCountRowOk_loop (c : Int) (hc : 1 ≤ c ∧ c ≤ 3) (u : List Int) (hu : u.length ≤ 5) (d : Nat) : ∀ i : Nat, i + d = u.length → Ev (fun k => laws_FnCountRowOk.l0 k c u (cntB c u) ((u.take i).reverse) (i : Int)) true := by
  induction d with
  | zero =>
    intro i hi
    refine Ev.step (fun _ => rfl) ?_
    refine ev_neg (by omega) (ev_pos (by omega) (ev_pos (by omega) ?_))
    rw [List.take_of_length_le (by omega)]
    have h0 : cntB c (List.replicate c.toNat 0) = true := by
      have : c = 1 ∨ c = 2 ∨ c = 3 := by omega
      rcases this with rfl | rfl | rfl <;> decide
    have h1 : cntB c u.reverse = cntB c u := by
      rw [← cntS_eq, ← cntS_eq]
      have ht : tot u.reverse = tot u := tot_reverse u
      simp [cntS, ht]
    refine Ev.bind (implCountRowOk_ev c _ (by simp; omega)) (ev_pos h0 (Ev.bind (implCountRowOk_ev c u.reverse (by simp; omega)) ?_))
    rw [h1]
    exact ev_pos (by simp) (Ev.bind alive_ev (Ev.now _))
  | succ d ih =>
    intro i hi
    refine Ev.step (fun _ => rfl) ?_
    refine ev_pos (by omega) (ev_pos (by omega) (Ev.bind (Ev.now _) (ev_pos (by simp; omega) ?_)))
    have e : [rd u (i : Int)] ++ (u.take i).reverse = (u.take (i + 1)).reverse := by rw [take_rd u i (by omega), List.reverse_append]; rfl
    rw [e, w64n i (by omega)]
    exact ih (i + 1) (by omega)
theorem FnCountRowOk : laws_FnCountRowOk.Pure := by
  intro l hl0 _ hb
  refine Ev.rounds (g := fun k => laws_FnCountRowOk.f k l) ?_
  unfold laws_FnCountRowOk.f
  by_cases h : (l.length : Int) > 1048576
  · exact ev_pos h (Ev.now _)
  refine ev_neg h ?_
  obtain ⟨c, u, hu, hl⟩ := DrawCountRowOk_ev l hb
  have no : ¬ (1 ≤ c ∧ c ≤ 3) → Ev (fun k => laws_FnCountRowOk.j0 k c u (cntB c u) true) true := fun hc => by
    have : cntB c u = false := by
      have : colB c = false := by simp [colB]; omega
      simp [cntB, this]
    rw [this]
    exact Ev.step (fun _ => rfl) (Ev.bind alive_ev (Ev.now _))
  refine Ev.bind hu (Ev.bind (implCountRowOk_ev c u (by omega)) (Ev.bind (specCountRowOk_ev c u (by omega)) (ev_neg (by simp) ?_)))
  by_cases h1 : c < 1
  · exact ev_pos h1 (no (by omega))
  refine ev_neg h1 ?_
  by_cases h2 : c > 3
  · rw [decide_eq_true h2]; exact no (by omega)
  · rw [decide_eq_false h2]
    exact Ev.step (fun _ => rfl) (FnCountRowOk_loop c (by omega) u hl u.length 0 (by omega))

end Go.Proofs.Ytieiflieppmboaa.Pure
