/- The law FnBallSum: for every input the printed function of the law answers true. No condition. -/
import Derived.Test.YtdplpbhbacbcmaaPFnBallSumx8
import Derived.Test.YtdplpbhbacbcmaaPlain
import Derived.Test.YtdplpbhbacbcmaaPlainE
set_option linter.unusedVariables false
set_option linter.unusedSimpArgs false
namespace Go.Proofs.Ytdplpbhbacbcmaa.Pure
open Go.RowKit Go.Proofs.Ytdplpbhbacbcmaa.PFnBallSum Go.Proofs.YtdplpbhbacbcmaaW.PrintWords Go.Proofs.YtdplpbhbacbcmaaW.PrintLast Go.Proofs.YtdplpbhbacbcmaaW.PrintMore Go.Proofs.Ytdplpbhbacbcmaa.Plain

theorem l1In_f (x a b : Int) : spec_l1In.f x a b = some (inB x a b) := by
  unfold spec_l1In.f inB
  by_cases h : x ≥ a
  · rw [if_pos h]; congr 1; simp [h]
  · rw [if_neg h]; congr 1; simp; omega

theorem coloursOk_f (x : Int) : impl_coloursOk.f x = some (colB x) := by
  unfold impl_coloursOk.f colB
  by_cases h : x ≥ 1
  · rw [if_pos h]; congr 1; simp [h]
  · rw [if_neg h]; congr 1; simp; omega

theorem implUrnOk_loop (l : List Int) (hl : l.length ≤ 1000000000) (d : Nat) : ∀ i : Nat, i + d = l.length → Ev (fun k => impl_UrnOk.l0 k l l (l.length : Int) (i : Int)) ((l.drop i).all urnE && colB l.length) := by
  induction d with
  | zero =>
    intro i hi
    refine Ev.step (fun _ => rfl) ?_
    refine ev_neg (by omega) ?_
    rw [coloursOk_f, List.drop_eq_nil_of_le (by omega)]
    exact Ev.now _
  | succ d ih =>
    intro i hi
    refine Ev.step (fun _ => rfl) ?_
    refine ev_pos (by omega) (ev_pos (by omega) (ev_pos (by omega) ?_))
    rw [drop_rd l i (by omega), List.all_cons]
    by_cases h1 : rd l (i : Int) < 0
    · refine ev_pos h1 (ev_eq (Ev.now _) ?_)
      rw [show urnE (rd l (i : Int)) = false from by simp [urnE]; omega]; rfl
    · refine ev_neg h1 ?_
      by_cases h2 : rd l (i : Int) > 40
      · refine ev_pos h2 (ev_eq (Ev.now _) ?_)
        rw [show urnE (rd l (i : Int)) = false from by simp [urnE]; omega]; rfl
      · refine ev_neg h2 ?_
        rw [w64n i (by omega), show urnE (rd l (i : Int)) = true from by simp [urnE]; omega, Bool.true_and]
        exact ih (i + 1) (by omega)
theorem implUrnOk_ev (l : List Int) (hl : l.length ≤ 1000000000) : Ev (fun k => impl_UrnOk.f k l) (urnB l) := by
  unfold impl_UrnOk.f
  exact implUrnOk_loop l hl l.length 0 (by omega)

theorem specUrnOk_loop (l : List Int) (hl : l.length ≤ 1000000000) (d : Nat) : ∀ i : Nat, i + d = l.length → Ev (fun k => spec_UrnOk.l0 k l (i : Int)) ((l.drop i).all urnE && colB l.length) := by
  induction d with
  | zero =>
    intro i hi
    refine Ev.step (fun _ => rfl) ?_
    refine ev_neg (by omega) ?_
    rw [l1In_f, List.drop_eq_nil_of_le (by omega)]
    exact Ev.now _
  | succ d ih =>
    intro i hi
    refine Ev.step (fun _ => rfl) ?_
    refine ev_pos (by omega) (ev_pos (by omega) ?_)
    rw [drop_rd l i (by omega), List.all_cons, l1In_f, show inB (rd l (i : Int)) 0 40 = urnE (rd l (i : Int)) from rfl]
    cases h : urnE (rd l (i : Int)) with
    | false => exact Ev.now _
    | true =>
      simp only [Option.bind_some, if_true, Bool.true_and]
      rw [w64n i (by omega)]
      exact ih (i + 1) (by omega)
theorem specUrnOk_ev (l : List Int) (hl : l.length ≤ 1000000000) : Ev (fun k => spec_UrnOk.f k l) (urnB l) := by
  unfold spec_UrnOk.f
  exact specUrnOk_loop l hl l.length 0 (by omega)

theorem specStartOk_loop (l : List Int) (hl : l.length ≤ 1000000000) (d : Nat) : ∀ i : Nat, i + d = l.length → Ev (fun k => spec_StartOk.l0 k l (i : Int)) ((l.drop i).all (fun x => decide (x ≤ 10)) && urnB l) := by
  induction d with
  | zero =>
    intro i hi
    refine Ev.step (fun _ => rfl) ?_
    refine ev_neg (by omega) ?_
    rw [List.drop_eq_nil_of_le (by omega)]
    exact Ev.bind (specUrnOk_ev l hl) (Ev.now _)
  | succ d ih =>
    intro i hi
    refine Ev.step (fun _ => rfl) ?_
    refine ev_pos (by omega) (ev_pos (by omega) ?_)
    rw [drop_rd l i (by omega), List.all_cons]
    by_cases h1 : rd l (i : Int) > 10
    · refine ev_pos h1 (ev_eq (Ev.now _) ?_)
      rw [show decide (rd l (i : Int) ≤ 10) = false from by simp; omega]; rfl
    · refine ev_neg h1 ?_
      rw [w64n i (by omega), show decide (rd l (i : Int) ≤ 10) = true from by simp; omega, Bool.true_and]
      exact ih (i + 1) (by omega)
theorem specStartOk_ev (l : List Int) (hl : l.length ≤ 1000000000) : Ev (fun k => spec_StartOk.f k l) (startB l) := by
  unfold spec_StartOk.f
  exact specStartOk_loop l hl l.length 0 (by omega)

theorem implSum_loop (l : List Int) (hl : l.length ≤ 1000) (B : Int) (hB : 0 ≤ B) (hB2 : B ≤ 1000000000) (hb : ∀ x ∈ l, -B ≤ x ∧ x ≤ B) (d : Nat) : ∀ i : Nat, i + d = l.length → Ev (fun k => impl_sum.l0 k (tot (l.take i)) l (l.length : Int) (i : Int)) (tot l) := by
  induction d with
  | zero =>
    intro i hi
    refine Ev.step (fun _ => rfl) ?_
    refine ev_neg (by omega) (ev_eq (Ev.now _) ?_)
    rw [List.take_of_length_le (by omega)]
  | succ d ih =>
    intro i hi
    refine Ev.step (fun _ => rfl) ?_
    refine ev_pos (by omega) (ev_pos (by omega) (ev_pos (by omega) ?_))
    have h1 := tot_abs (l.take i) B hB (fun x hx => hb x (List.mem_of_mem_take hx))
    have h2 := hb _ (rd_mem l i (by omega))
    have h3 : ((l.take i).length : Int) * B ≤ 1000 * 1000000000 := (mulb (by omega) (by rw [List.length_take]; omega) hB hB2).2
    have h4 : tot (l.take i) + rd l (i : Int) = tot (l.take (i + 1)) := by rw [take_rd l i (by omega), tot_append]; simp [tot]
    rw [w64n i (by omega), w64 (by omega) (by omega), h4]
    exact ih (i + 1) (by omega)
theorem implSum_ev (l : List Int) (hl : l.length ≤ 1000) (hb : ∀ x ∈ l, -1000000000 ≤ x ∧ x ≤ 1000000000) : Ev (fun k => impl_sum.f k l) (tot l) := by
  unfold impl_sum.f
  exact implSum_loop l hl 1000000000 (by omega) (by omega) hb l.length 0 (by omega)

theorem implTotalOf_ev (l : List Int) (hl : l.length ≤ 1000000000) : Ev (fun k => impl_TotalOf.f k l) (if urnB l = true then tot l else -1) := by
  unfold impl_TotalOf.f
  refine Ev.bind (implUrnOk_ev l hl) ?_
  by_cases h : urnB l = true
  · rw [if_pos h]
    obtain ⟨h1, h2, h3⟩ := urnB_bounds h
    exact ev_pos h (Ev.bind (implSum_ev l (by omega) (fun x hx => by have := h1 x hx; omega)) (Ev.now _))
  · rw [if_neg h]
    exact ev_neg h (Ev.now _)

theorem l20Open_f (l : List Int) (hb : ∀ x ∈ l, (Lit.int .u8 x).wf = true) : ∃ b, spec_l20Open.f l = some (b, 0) ∧ OkB b := by
  unfold spec_l20Open.f
  by_cases h : (l.length : Int) > 2000
  · rw [if_pos h, if_pos (by omega)]
    exact ⟨_, rfl, fun x hx => u8_wf (hb x (List.mem_of_mem_take hx)), by rw [List.length_take]; omega⟩
  · rw [if_neg h]
    exact ⟨_, rfl, fun x hx => u8_wf (hb x hx), by omega⟩

theorem pick_ev {b : List Int} (hb : OkB b) {p : Int} (hp0 : 0 ≤ p) (hp : p ≤ 1000000) (n : Int) (hn0 : 1 ≤ n) (hn : n ≤ 1000000) : ∃ v, Ev (fun k => spec_l20Rd_pick.f k b p n) (v, p + 1) ∧ 0 ≤ v ∧ v < n := by
  obtain ⟨hb1, hb2⟩ := hb
  unfold spec_l20Rd_pick.f
  have e1 : wrap64 (p + 1) = p + 1 := w64 (by omega) (by omega)
  by_cases h0 : b.length = 0
  · refine ⟨0, ev_neg (by omega) ?_, by omega, by omega⟩
    rw [show ((b.length : Int) == 0) = true from by simp [h0], e1]
    exact Ev.step (fun _ => rfl) (Ev.now _)
  · have hz : ((b.length : Int) == 0) = false := by simp; intro hh; exact h0 (by simp [hh])
    have hat : ∀ i : Int, 0 ≤ i → i < b.length → 0 ≤ rd b i ∧ rd b i ≤ 255 := fun i h1 h2 => hb1 _ (rd_range b i h1 h2)
    have e2 : wrap64 (p + 1 - 1) = p := by rw [show p + 1 - 1 = p by omega]; exact w64 (by omega) (by omega)
    by_cases h1 : p < (b.length : Int)
    · have hr := hat p hp0 h1
      have ht := tmod_range (rd b p) n hr.1 (by omega)
      refine ⟨Int.tmod (rd b p) n, ev_neg (by omega) ?_, ht.1, ht.2⟩
      rw [hz, e1]
      refine Ev.step (fun _ => by rw [spec_l20Rd_pick.j0]) (ev_neg (by simp) ?_)
      rw [e2, w64 (x := rd b p) (by omega) (by omega)]
      exact ev_pos h1 (ev_pos hp0 (ev_neg (by omega) (Ev.now _)))
    · have m1 := tmod_range p (b.length : Int) hp0 (by omega)
      have e3 : wrap64 (p * 7) = p * 7 := w64 (by omega) (by omega)
      have e4 : wrap64 (p * 7 + 3) = p * 7 + 3 := w64 (by omega) (by omega)
      have m2 := tmod_range (p * 7 + 3) (b.length : Int) (by omega) (by omega)
      have r1 := hat _ m1.1 m1.2
      have r2 := hat _ m2.1 m2.2
      have d1 := tdiv_range p (b.length : Int) hp0 (by omega)
      have key : ∀ x y z : Int, 0 ≤ x → x ≤ 255 → 0 ≤ y → y ≤ 255 → 0 ≤ z → z ≤ 1000000 →
          wrap64 (wrap64 (wrap64 (wrap64 (wrap64 x * 131) + wrap64 (wrap64 y * 1117)) + wrap64 (p * 29)) + wrap64 (wrap64 z * 53)) = x * 131 + y * 1117 + p * 29 + z * 53 := by
        intro x y z _ _ _ _ _ _
        rw [w64 (x := x) (by omega) (by omega), w64 (x := y) (by omega) (by omega), w64 (x := z) (by omega) (by omega), w64 (x := x * 131) (by omega) (by omega), w64 (x := y * 1117) (by omega) (by omega), w64 (x := p * 29) (by omega) (by omega), w64 (x := z * 53) (by omega) (by omega),
          w64 (x := x * 131 + y * 1117) (by omega) (by omega), w64 (x := x * 131 + y * 1117 + p * 29) (by omega) (by omega), w64 (by omega) (by omega)]
      obtain ⟨X, hX, hX0, hX1⟩ : ∃ X, wrap64 (wrap64 (wrap64 (wrap64 (wrap64 (rd b (Int.tmod p b.length)) * 131) + wrap64 (wrap64 (rd b (Int.tmod (p * 7 + 3) b.length)) * 1117)) + wrap64 (p * 29)) + wrap64 (wrap64 (Int.tdiv p b.length) * 53)) = X ∧ 0 ≤ X ∧ X ≤ 100000000 :=
        ⟨_, key _ _ _ r1.1 r1.2 r2.1 r2.2 d1.1 (by omega), by omega, by omega⟩
      have d2 := tdiv_range X 64 hX0 (by omega)
      have hx := xor_nonneg X (Int.tdiv X 64) hX0 (by omega) d2.1 (by omega)
      have ht := tmod_range _ n hx (by omega)
      refine ⟨Int.tmod (Go.bits .xor .i64 X (Int.tdiv X 64)) n, ev_neg (by omega) ?_, ht.1, ht.2⟩
      rw [hz, e1]
      refine Ev.step (fun _ => by rw [spec_l20Rd_pick.j0]) (ev_neg (by simp) ?_)
      rw [e2, e3, e4, hX, w64 (x := Int.tdiv X 64) (by omega) (by omega)]
      exact ev_neg h1 (ev_neg (by omega) (ev_pos m1.1 (ev_pos m1.2 (ev_pos m2.1 (ev_pos m2.2 (ev_neg (by omega) (Ev.now _)))))))

theorem odd_ev {b : List Int} (hb : OkB b) {p : Int} (hp0 : 0 ≤ p) (hp : p ≤ 1000000) (n : Int) (hn0 : 1 ≤ n) (hn : n ≤ 1000000) : ∃ v, Ev (fun k => spec_l20Rd_odd.f k b p n) (v, p + 1) := by
  obtain ⟨v, hv, _, _⟩ := pick_ev hb hp0 hp n hn0 hn
  unfold spec_l20Rd_odd.f
  exact ⟨_, ev_pos (by omega) (Ev.bind hv (Ev.now _))⟩

theorem l20Urn_loop {b : List Int} (hb : OkB b) (n : Int) (hn0 : 1 ≤ n) (hn : n ≤ 1000000) (d : Nat) : ∀ (l : List Int) (p : Int), 0 ≤ p → p + d ≤ 900000 → d ≤ 3 → 1 ≤ l.length + d → l.length + d ≤ 3 → (∀ x ∈ l, 0 ≤ x ∧ x ≤ 5) →
    ∃ u p', Ev (fun k => spec_l20Urn.l0 k n l (d : Int) b p) (u, p') ∧ p ≤ p' ∧ p' ≤ p + d + 5 ∧ u.length ≤ 4 ∧ ∀ x ∈ u, -1 ≤ x ∧ x ≤ 41 := by
  induction d with
  | zero =>
    intro l p hp0 hp _ hl1 hl2 hx
    obtain ⟨v, hv⟩ := odd_ev hb hp0 (by omega) n hn0 hn
    cases v with
    | false =>
      exact ⟨l, p + 1, Ev.step (fun _ => rfl) (ev_neg (by omega) (Ev.bind hv (Ev.now _))), by omega, by omega, by omega, fun x h => by have := hx x h; omega⟩
    | true =>
      obtain ⟨w, hw, hw0, hw1⟩ := pick_ev hb (p := p + 1) (by omega) (by omega) 3 (by omega) (by omega)
      by_cases h0 : w = 0
      · exact ⟨[], p + 1 + 1, Ev.step (fun _ => rfl) (ev_neg (by omega) (Ev.bind hv (Ev.bind hw (ev_pos h0 (Ev.now _))))), by omega, by omega, by simp, fun x h => by simp at h⟩
      · by_cases h1 : w = 1
        · obtain ⟨y, hy, hy0, hy1⟩ := pick_ev hb (p := p + 1 + 1) (by omega) (by omega) 2 (by omega) (by omega)
          refine ⟨l.set 0 (rd [-1, 41] y), p + 1 + 1 + 1, Ev.step (fun _ => rfl) (ev_neg (by omega) (Ev.bind hv (Ev.bind hw (ev_neg h0 (ev_pos h1 (Ev.bind (Ev.now _) (Ev.bind hy (ev_pos hy0 (ev_pos (by simpa using hy1) (ev_pos (by omega) (Ev.now _))))))))))), by omega, by omega, by rw [List.length_set]; omega, ?_⟩
          intro x h
          rcases List.mem_or_eq_of_mem_set h with h | rfl
          · have := hx x h; omega
          · have : y = 0 ∨ y = 1 := by omega
            rcases this with rfl | rfl <;> simp [rd]
        · exact ⟨[1, 1, 1, 1], p + 1 + 1, Ev.step (fun _ => rfl) (ev_neg (by omega) (Ev.bind hv (Ev.bind hw (ev_neg h0 (ev_neg h1 (Ev.now _)))))), by omega, by omega, by simp, fun x h => by simp at h; omega⟩
  | succ d ih =>
    intro l p hp0 hp hd hl1 hl2 hx
    obtain ⟨v, hv, hv0, hv1⟩ := pick_ev hb hp0 (by omega) 6 (by omega) (by omega)
    obtain ⟨u, p', hu, h1, h2, h3, h4⟩ := ih (l ++ [v]) (p + 1) (by omega) (by omega) (by omega) (by simp; omega) (by simp; omega) (fun x h => by
      rcases List.mem_append.1 h with h | h
      · exact hx x h
      · have : x = v := by simpa using h
        omega)
    refine ⟨u, p', Ev.step (fun _ => rfl) (ev_pos (by omega) (Ev.bind hv (ev_pos (by omega) ?_))), by omega, by omega, h3, h4⟩
    rw [w64 (by omega) (by omega), show ((d + 1 : Nat) : Int) - 1 = (d : Int) from by omega]
    exact hu
theorem l20Urn_ev {b : List Int} (hb : OkB b) {p : Int} (hp0 : 0 ≤ p) (hp : p ≤ 800000) (n : Int) (hn0 : 1 ≤ n) (hn : n ≤ 1000000) :
    ∃ u p', Ev (fun k => spec_l20Urn.f k b p n) (u, p') ∧ p ≤ p' ∧ p' ≤ p + 11 ∧ u.length ≤ 4 ∧ ∀ x ∈ u, -1 ≤ x ∧ x ≤ 41 := by
  obtain ⟨v, hv, hv0, hv1⟩ := pick_ev hb hp0 (by omega) 3 (by omega) (by omega)
  obtain ⟨m, rfl⟩ := Int.eq_ofNat_of_zero_le hv0
  obtain ⟨u, p', hu, h1, h2, h3, h4⟩ := l20Urn_loop hb n hn0 hn (1 + m) [] (p + 1) (by omega) (by omega) (by omega) (by simp) (by simp; omega) (by simp)
  refine ⟨u, p', ?_, by omega, by omega, h3, h4⟩
  unfold spec_l20Urn.f
  refine Ev.bind hv ?_
  rw [w64 (by omega) (by omega), show (1 : Int) + (m : Int) = ((1 + m : Nat) : Int) from by omega]
  exact hu

theorem l20Word_loop {b : List Int} (hb : OkB b) (c n : Int) (hc : c ≤ 1000) (hn0 : 1 ≤ n) (hn : n ≤ 1000000) (d : Nat) : ∀ (l : List Int) (p : Int), 0 ≤ p → p + d ≤ 900000 → d ≤ 4 → l.length + d ≤ 4 → (∀ x ∈ l, 0 ≤ x ∧ x ≤ 1000) →
    ∃ u p', Ev (fun k => spec_l20Word.l0 k c n l (d : Int) b p) (u, p') ∧ p ≤ p' ∧ p' ≤ p + d + 5 ∧ u.length ≤ 7 ∧ ∀ x ∈ u, 0 ≤ x ∧ x ≤ 1000 := by
  induction d with
  | zero =>
    intro l p hp0 hp _ hl2 hx
    obtain ⟨v, hv⟩ := odd_ev hb hp0 (by omega) n hn0 hn
    cases v with
    | false =>
      exact ⟨l, p + 1, Ev.step (fun _ => rfl) (ev_neg (by omega) (Ev.bind hv (Ev.now _))), by omega, by omega, by omega, hx⟩
    | true =>
      obtain ⟨w, hw, hw0, hw1⟩ := pick_ev hb (p := p + 1) (by omega) (by omega) 2 (by omega) (by omega)
      by_cases h0 : w = 0
      · refine ⟨l ++ [3], p + 1 + 1, Ev.step (fun _ => rfl) (ev_neg (by omega) (Ev.bind hv (Ev.bind hw (ev_pos h0 (ev_pos (by omega) (Ev.now _)))))), by omega, by omega, by simp; omega, fun x h => ?_⟩
        rcases List.mem_append.1 h with h | h
        · exact hx x h
        · have : x = 3 := by simpa using h
          omega
      · exact ⟨[0, 0, 0, 0, 0, 0, 0], p + 1 + 1, Ev.step (fun _ => rfl) (ev_neg (by omega) (Ev.bind hv (Ev.bind hw (ev_neg h0 (Ev.now _))))), by omega, by omega, by simp, fun x h => by simp at h; omega⟩
  | succ d ih =>
    intro l p hp0 hp hd hl2 hx
    obtain ⟨v, hv, hv0, hv1⟩ := pick_ev hb hp0 (by omega) (mx c 1) (by unfold mx; split <;> omega) (by unfold mx; split <;> omega)
    have hv2 : v ≤ 1000 := by
      have : mx c 1 ≤ 1000 := by unfold mx; split <;> omega
      omega
    obtain ⟨u, p', hu, h1, h2, h3, h4⟩ := ih (l ++ [v]) (p + 1) (by omega) (by omega) (by omega) (by simp; omega) (fun x h => by
      rcases List.mem_append.1 h with h | h
      · exact hx x h
      · have : x = v := by simpa using h
        omega)
    refine ⟨u, p', Ev.step (fun _ => rfl) (ev_pos (by omega) (Ev.bind hv (ev_pos (by omega) ?_))), by omega, by omega, h3, h4⟩
    rw [w64 (by omega) (by omega), show ((d + 1 : Nat) : Int) - 1 = (d : Int) from by omega]
    exact hu
theorem l20Word_ev {b : List Int} (hb : OkB b) {p : Int} (hp0 : 0 ≤ p) (hp : p ≤ 800000) (c n : Int) (hc : c ≤ 1000) (hn0 : 1 ≤ n) (hn : n ≤ 1000000) :
    ∃ u p', Ev (fun k => spec_l20Word.f k b p c n) (u, p') ∧ p ≤ p' ∧ p' ≤ p + 11 ∧ u.length ≤ 7 ∧ ∀ x ∈ u, 0 ≤ x ∧ x ≤ 1000 := by
  obtain ⟨v, hv, hv0, hv1⟩ := pick_ev hb hp0 (by omega) 5 (by omega) (by omega)
  obtain ⟨m, rfl⟩ := Int.eq_ofNat_of_zero_le hv0
  obtain ⟨u, p', hu, h1, h2, h3, h4⟩ := l20Word_loop hb c n hc hn0 hn m [] (p + 1) (by omega) (by omega) (by omega) (by simp; omega) (by simp)
  refine ⟨u, p', ?_, by omega, by omega, h3, h4⟩
  unfold spec_l20Word.f
  exact Ev.bind hv hu

theorem alive_ev : Ev (fun k => laws_alive.f k) true := by
  unfold laws_alive.f
  exact Ev.bind (implUrnOk_ev [1] (by simp)) (ev_pos (by decide) (Ev.bind (implUrnOk_ev [] (by simp)) (Ev.now _)))

theorem rdL_eq (xs : List (List Int)) (i : Int) : rd_L2 xs i = rowR xs i := rfl

theorem implRuleOk_inner (c : Int) (rule : List (List Int)) (i : Nat) (rest : Bool) (row : List Int) (hl : row.length ≤ 1000000000) (H : Ev (fun k => impl_RuleOk.l0 k c rule rule (rule.length : Int) ((i + 1 : Nat) : Int)) rest) (hi : i ≤ 1000000000) (d : Nat) : ∀ j : Nat, j + d = row.length →
    Ev (fun k => impl_RuleOk.l1 k c rule (i : Int) rule (rule.length : Int) (i : Int) row (row.length : Int) (j : Int)) (entsB i j (row.drop j) && rest) := by
  induction d with
  | zero =>
    intro j hj
    refine Ev.step (fun _ => rfl) ?_
    refine ev_neg (by omega) ?_
    rw [List.drop_eq_nil_of_le (by omega), w64n i (by omega)]
    exact ev_eq H (by simp [entsB])
  | succ d ih =>
    intro j hj
    refine Ev.step (fun _ => rfl) ?_
    refine ev_pos (by omega) (ev_pos (by omega) (ev_pos (by omega) ?_))
    rw [drop_rd row j (by omega), entsB]
    have no : entB i j (rd row (j : Int)) = false → (entB i j (rd row (j : Int)) && entsB i (j + 1) (row.drop (j + 1)) && rest) = false := fun h => by rw [h]; rfl
    by_cases h1 : rd row (j : Int) > 3
    · refine ev_pos h1 (ev_eq (Ev.now _) ?_)
      rw [no (by simp [entB]; omega)]
    refine ev_neg h1 ?_
    by_cases h2 : rd row (j : Int) < -1
    · refine ev_pos h2 (ev_eq (Ev.now _) ?_)
      rw [no (by simp [entB]; omega)]
    refine ev_neg h2 ?_
    have go : entB i j (rd row (j : Int)) = true → Ev (fun k => impl_RuleOk.l1 k c rule (i : Int) rule (rule.length : Int) (i : Int) row (row.length : Int) (wrap64 ((j : Int) + 1))) (entB i j (rd row (j : Int)) && entsB i (j + 1) (row.drop (j + 1)) && rest) := fun h => by
      rw [h, Bool.true_and, w64n j (by omega)]
      exact ih (j + 1) (by omega)
    by_cases h3 : rd row (j : Int) = -1
    · refine ev_pos h3 ?_
      by_cases h4 : (i : Int) = (j : Int)
      · exact ev_pos h4 (go (by simp [entB]; omega))
      · refine ev_neg h4 (ev_eq (Ev.now _) ?_)
        rw [no (by simp [entB, h3, h4])]
    · exact ev_neg h3 (go (by simp [entB]; omega))
theorem implRuleOk_loop (c : Int) (rule : List (List Int)) (hl : rule.length ≤ 100000000) (hr : ∀ r ∈ rule, r.length ≤ 1000000000) (d : Nat) : ∀ i : Nat, i + d = rule.length →
    Ev (fun k => impl_RuleOk.l0 k c rule rule (rule.length : Int) (i : Int)) (rowsB c i (rule.drop i) && (colB c && decide ((rule.length : Int) = c))) := by
  induction d with
  | zero =>
    intro i hi
    refine Ev.step (fun _ => rfl) ?_
    refine ev_neg (by omega) ?_
    rw [coloursOk_f, List.drop_eq_nil_of_le (by omega)]
    cases h : colB c
    · exact Ev.now _
    · exact ev_eq (Ev.now _) (by simp [rowsB]; rfl)
  | succ d ih =>
    intro i hi
    refine Ev.step (fun _ => rfl) ?_
    refine ev_pos (by omega) (ev_pos (by omega) (ev_pos (by omega) ?_))
    rw [rdL_eq, drop_rowR rule i (by omega), rowsB, rowB]
    by_cases h : ((rowR rule (i : Int)).length : Int) = c
    · refine ev_pos h ?_
      have := implRuleOk_inner c rule i _ (rowR rule (i : Int)) (hr _ (rowR_mem rule i (by omega))) (ih (i + 1) (by omega)) (by omega) (rowR rule (i : Int)).length 0 (by omega)
      refine ev_eq this ?_
      simp [h, Bool.and_assoc]
    · refine ev_neg h (ev_eq (Ev.now _) ?_)
      simp [h]
theorem implRuleOk_ev (c : Int) (rule : List (List Int)) (hl : rule.length ≤ 100000000) (hr : ∀ r ∈ rule, r.length ≤ 1000000000) : Ev (fun k => impl_RuleOk.f k c rule) (ruleB c rule) := by
  unfold impl_RuleOk.f
  exact implRuleOk_loop c rule hl hr rule.length 0 (by omega)

theorem specRuleOk_inner (c : Int) (rule : List (List Int)) (i : Nat) (rest : Bool) (hi : i < rule.length) (hl : rule.length ≤ 100000000) (hl2 : (rowR rule i).length ≤ 1000000000) (hc : ((rowR rule i).length : Int) = c) (H : Ev (fun k => spec_RuleOk.l0 k c rule ((i + 1 : Nat) : Int)) rest) (d : Nat) : ∀ j : Nat, j + d = (rowR rule i).length →
    Ev (fun k => spec_RuleOk.l1 k c rule (i : Int) (j : Int)) (entsB i j ((rowR rule i).drop j) && rest) := by
  induction d with
  | zero =>
    intro j hj
    refine Ev.step (fun _ => rfl) ?_
    refine ev_neg (by omega) ?_
    rw [List.drop_eq_nil_of_le (by omega), w64n i (by omega)]
    exact ev_eq H (by simp [entsB])
  | succ d ih =>
    intro j hj
    refine Ev.step (fun _ => rfl) ?_
    refine ev_pos (by omega) (ev_pos (by omega) (ev_pos (by omega) (ev_pos (by omega) ?_)))
    refine ev_pos (show (j : Int) < ((rowR rule i).length : Int) by omega) ?_
    rw [drop_rd _ j (by omega), entsB, rdL_eq, l1In_f, w64n j (by omega)]
    have no : entB i j (rd (rowR rule i) (j : Int)) = false → (entB i j (rd (rowR rule i) (j : Int)) && entsB i (j + 1) ((rowR rule i).drop (j + 1)) && rest) = false := fun h => by rw [h]; rfl
    have go : entB i j (rd (rowR rule i) (j : Int)) = true → Ev (fun k => spec_RuleOk.l1 k c rule (i : Int) ((j + 1 : Nat) : Int)) (entB i j (rd (rowR rule i) (j : Int)) && entsB i (j + 1) ((rowR rule i).drop (j + 1)) && rest) := fun h => by
      rw [h, Bool.true_and]
      exact ih (j + 1) (by omega)
    refine Ev.bind (Ev.now _) ?_
    by_cases h1 : 0 ≤ rd (rowR rule i) (j : Int) ∧ rd (rowR rule i) (j : Int) ≤ 3
    · exact ev_pos (by simp [inB]; omega) (go (by simp [entB]; omega))
    refine ev_neg (by simp [inB]; omega) ?_
    by_cases h3 : rd (rowR rule i) (j : Int) = -1
    · refine ev_pos h3 ?_
      by_cases h4 : (j : Int) = (i : Int)
      · exact ev_pos h4 (go (by simp [entB]; omega))
      · refine ev_neg h4 (ev_eq (Ev.now _) ?_)
        rw [no (by simp [entB, h3]; omega)]
    · refine ev_neg h3 (ev_eq (Ev.now _) ?_)
      rw [no (by simp [entB]; omega)]
theorem specRuleOk_loop (c : Int) (rule : List (List Int)) (hl : rule.length ≤ 100000000) (hr : ∀ r ∈ rule, r.length ≤ 1000000000) (d : Nat) : ∀ i : Nat, i + d = rule.length →
    Ev (fun k => spec_RuleOk.l0 k c rule (i : Int)) (rowsB c i (rule.drop i) && (colB c && decide ((rule.length : Int) = c))) := by
  induction d with
  | zero =>
    intro i hi
    refine Ev.step (fun _ => rfl) ?_
    refine ev_neg (by omega) ?_
    rw [l1In_f, show inB c 1 3 = colB c from rfl, List.drop_eq_nil_of_le (by omega)]
    cases h : colB c
    · exact Ev.now _
    · exact ev_eq (Ev.now _) (by simp [rowsB]; rfl)
  | succ d ih =>
    intro i hi
    refine Ev.step (fun _ => rfl) ?_
    refine ev_pos (by omega) (ev_pos (by omega) ?_)
    rw [rdL_eq, drop_rowR rule i (by omega), rowsB, rowB]
    by_cases h : ((rowR rule (i : Int)).length : Int) = c
    · refine ev_pos h ?_
      have := specRuleOk_inner c rule i _ (by omega) hl (hr _ (rowR_mem rule i (by omega))) h (ih (i + 1) (by omega)) (rowR rule (i : Int)).length 0 (by omega)
      refine ev_eq this ?_
      simp [h, Bool.and_assoc]
    · refine ev_neg h (ev_eq (Ev.now _) ?_)
      simp [h]
theorem specRuleOk_ev (c : Int) (rule : List (List Int)) (hl : rule.length ≤ 100000000) (hr : ∀ r ∈ rule, r.length ≤ 1000000000) : Ev (fun k => spec_RuleOk.f k c rule) (ruleB c rule) := by
  unfold spec_RuleOk.f
  exact specRuleOk_loop c rule hl hr rule.length 0 (by omega)

theorem l4After_loop {B : Int} (c : Nat) (r : List (List Int)) (hr : RuleK c r) (u : List Int) (n : Nat) (hn6 : n ≤ 1000) (hn : Near B c n u) (q : Int) (h0 : 0 ≤ q) (h1 : q < (c : Int)) (d : Nat) : ∀ i : Nat, i + d = c → Ev (fun k => spec_l4After.l0 k u r q ((addL u (rowR r q)).take i) (i : Int)) (addL u (rowR r q)) := by
  obtain ⟨m, rfl⟩ := Int.eq_ofNat_of_zero_le h0
  have hrow := hr.rows m (by omega)
  have hla : (addL u (rowR r (m : Int))).length = c := by rw [addL_length _ _ (by rw [hrow, hn.1]), hn.1]
  have hc := hr.c3
  induction d with
  | zero =>
    intro i hi
    refine Ev.step (fun _ => rfl) ?_
    refine ev_neg (by rw [hn.1]; omega) (ev_eq (Ev.now _) ?_)
    rw [List.take_of_length_le (by omega)]
  | succ d ih =>
    intro i hi
    refine Ev.step (fun _ => rfl) ?_
    refine ev_pos (by rw [hn.1]; omega) (ev_pos (by omega) (ev_pos (by omega) (ev_pos (by rw [hr.len]; omega) (ev_pos (show (i : Int) < ((rowR r (m : Int)).length : Int) by rw [hrow]; omega) (ev_pos (by rw [List.length_take]; omega) ?_)))))
    have h2 := hn.2.1 i (by omega); have h5 := hn.2.2
    have h3 := hr.ent m i (by omega) (by omega)
    have h4 := addL_rd u (rowR r (m : Int)) i (by rw [hn.1]; omega) (by rw [hrow, hn.1])
    rw [rdL_eq, w64n i (by omega), w64 (by omega) (by omega), ← h4, ← take_rd _ i (by omega)]
    exact ih (i + 1) (by omega)
theorem l4After_ev {B : Int} (c : Nat) (r : List (List Int)) (hr : RuleK c r) (u : List Int) (n : Nat) (hn6 : n ≤ 1000) (hn : Near B c n u) (q : Int) (h0 : 0 ≤ q) (h1 : q < (c : Int)) : Ev (fun k => spec_l4After.f k u r q) (addL u (rowR r q)) := by
  unfold spec_l4After.f
  exact l4After_loop c r hr u n hn6 hn q h0 h1 c 0 (by omega)

theorem implEvenRule_loop (c : Nat) (r : List (List Int)) (hr : RuleK c r) (d : Nat) : ∀ i : Nat, i + d = r.length → Ev (fun k => impl_EvenRule.l0 k r r (r.length : Int) (i : Int)) (if ∀ x ∈ r.drop i, tot x = tot (rowR r 0) then (tot (rowR r 0), true) else (0, false)) := by
  have hlen := hr.len; have hc1 := hr.c1; have hc3 := hr.c3
  have hrow : ∀ x ∈ r, Ev (fun k => impl_sum.f k x) (tot x) := fun x hx => by
    have := row_bounds hr x hx
    exact implSum_ev x (by omega) (fun y hy => by have := this.2 y hy; omega)
  have h0 : rowR r 0 ∈ r := rowR_range r 0 (by omega) (by omega)
  induction d with
  | zero =>
    intro i hi
    refine Ev.step (fun _ => rfl) ?_
    refine ev_neg (by omega) (ev_pos (by omega) ?_)
    rw [List.drop_eq_nil_of_le (by omega), if_pos (by simp)]
    exact Ev.bind (hrow _ h0) (Ev.now _)
  | succ d ih =>
    intro i hi
    refine Ev.step (fun _ => rfl) ?_
    refine ev_pos (by omega) (ev_pos (by omega) (ev_pos (by omega) ?_))
    refine Ev.bind (hrow _ (rowR_mem r i (by omega))) (ev_pos (by omega) (Ev.bind (hrow _ h0) ?_))
    rw [drop_rowR r i (by omega)]
    by_cases h : tot (rowR r (i : Int)) = tot (rowR r 0)
    · refine ev_pos h ?_
      rw [w64n i (by omega)]
      refine ev_eq (ih (i + 1) (by omega)) ?_
      simp [h]
    · refine ev_neg h (ev_eq (Ev.now _) ?_)
      rw [if_neg (fun hh => h (hh _ List.mem_cons_self))]
theorem implEvenRule_ev (c : Int) (r : List (List Int)) (hl : r.length ≤ 100000000) (hr : ∀ x ∈ r, x.length ≤ 1000000000) : Ev (fun k => impl_EvenRule.f k c r) (evenP c r) := by
  unfold impl_EvenRule.f evenP
  refine Ev.bind (implRuleOk_ev c r hl hr) ?_
  cases h : ruleB c r with
  | false => rw [if_neg (fun hh => by cases hh.1)]; exact ev_neg (by simp) (Ev.now _)
  | true =>
    have hk := (ruleB_known h).1
    refine ev_pos rfl ?_
    refine ev_eq (implEvenRule_loop _ r hk r.length 0 (by omega)) ?_
    simp

theorem l20Rule_row {b : List Int} (hb : OkB b) (c : Nat) (n kind : Int) (R : List (List Int)) (i : Int) (M : Int) (hM : M ≤ 900000) (Q : List (List Int) × Int → Prop) (hc3 : c ≤ 3)
    (H : ∀ (row : List Int) (p : Int), 0 ≤ p → p ≤ M → row.length = c → ∃ z, Ev (fun k => spec_l20Rule.l1 k (c : Int) n R kind i row (c : Int) b p) z ∧ Q z) (d : Nat) :
    ∀ (j : Nat) (row : List Int) (p : Int), 0 ≤ p → p + 2 * d ≤ M → j + d = c → row.length = c → ∃ z, Ev (fun k => spec_l20Rule.l1 k (c : Int) n R kind i row (j : Int) b p) z ∧ Q z := by
  induction d with
  | zero =>
    intro j row p hp0 hp hj hl
    obtain rfl : j = c := by omega
    exact H row p hp0 (by omega) hl
  | succ d ih =>
    intro j row p hp0 hp hj hl
    obtain ⟨v1, e1, a1, b1⟩ := pick_ev hb hp0 (by omega) 3 (by omega) (by omega)
    obtain ⟨v2, e2, a2, b2⟩ := pick_ev hb (p := p + 1) (by omega) (by omega) 2 (by omega) (by omega)
    obtain ⟨z, hz, hQ⟩ := ih (j + 1) (row.set j (wrap64 (v1 * v2))) (p + 1 + 1) (by omega) (by omega) (by omega) (by rw [List.length_set]; exact hl)
    refine ⟨z, Ev.step (fun _ => rfl) (ev_pos (by omega) (Ev.bind e1 (Ev.bind e2 (ev_pos (by omega) (ev_pos (by rw [hl]; omega) ?_))))), hQ⟩
    rw [w64n j (by omega), show ((j : Int)).toNat = j from by simp]
    exact hz
theorem l20Rule_loop {b : List Int} (hb : OkB b) (c : Nat) (hc1 : 1 ≤ c) (hc3 : c ≤ 3) (n kind : Int) (hn0 : 1 ≤ n) (hn : n ≤ 1000000) (M : Int) (hM : M ≤ 900000) (d : Nat) :
    ∀ (i : Nat) (R : List (List Int)) (p : Int), 0 ≤ p → p + 6 * d + 2 ≤ M → i + d = c → R.length = i → (∀ x ∈ R, x.length = c) →
    ∃ z, Ev (fun k => spec_l20Rule.l0 k (c : Int) n R kind (i : Int) b p) z ∧ (0 ≤ z.2 ∧ z.2 ≤ M ∧ z.1.length ≤ 3 ∧ ∀ x ∈ z.1, x.length ≤ 3) := by
  induction d with
  | zero =>
    intro i R p hp0 hp hi hl hR
    obtain ⟨v, hv⟩ := odd_ev hb hp0 (by omega) n hn0 hn
    cases v with
    | false => exact ⟨(R, p + 1), Ev.step (fun _ => rfl) (ev_neg (by omega) (Ev.bind hv (Ev.now _))), by simp only; omega, by simp only; omega, by simp only; omega, fun x hx => by have := hR x hx; omega⟩
    | true =>
      obtain ⟨w, hw, hw0, hw1⟩ := pick_ev hb (p := p + 1) (by omega) (by omega) 2 (by omega) (by omega)
      have h0 : rowR R 0 ∈ R := rowR_range R 0 (by omega) (by omega)
      have h0l := hR _ h0
      have ec : wrap64 ((c : Int) - 1) = (c : Int) - 1 := w64 (by omega) (by omega)
      by_cases h1 : w = 0
      · refine ⟨(R.set 0 ((rowR R 0).set (wrap64 ((c : Int) - 1)).toNat 4), p + 1 + 1), Ev.step (fun _ => rfl) (ev_neg (by omega) (Ev.bind hv (Ev.bind hw (ev_pos h1 (ev_pos (by omega) (ev_pos (by omega) (ev_pos (show wrap64 ((c : Int) - 1) < ((rowR R 0).length : Int) by rw [h0l]; omega) (Ev.now _)))))))), by simp only; omega, by simp only; omega, by simp only [List.length_set]; omega, fun x hx => ?_⟩
        rcases List.mem_or_eq_of_mem_set hx with hx | rfl
        · have := hR x hx; omega
        · rw [List.length_set]; omega
      · exact ⟨(R.drop 1, p + 1 + 1), Ev.step (fun _ => rfl) (ev_neg (by omega) (Ev.bind hv (Ev.bind hw (ev_neg h1 (ev_pos (by omega) (Ev.now _)))))), by simp only; omega, by simp only; omega, by simp only [List.length_drop]; omega, fun x hx => by have := hR x (List.mem_of_mem_drop hx); omega⟩
  | succ d ih =>
    intro i R p hp0 hp hi hl hR
    have H : ∀ (row : List Int) (q : Int), 0 ≤ q → q ≤ M - 6 * d - 2 → row.length = c → ∃ z, Ev (fun k => spec_l20Rule.l1 k (c : Int) n R kind (i : Int) row (c : Int) b q) z ∧ (0 ≤ z.2 ∧ z.2 ≤ M ∧ z.1.length ≤ 3 ∧ ∀ x ∈ z.1, x.length ≤ 3) := by
      intro row q hq0 hq hrl
      have fin : ∀ row' : List Int, row'.length = c → ∃ z, Ev (fun k => spec_l20Rule.l0 k (c : Int) n (R ++ [row']) kind (wrap64 ((i : Int) + 1)) b q) z ∧ (0 ≤ z.2 ∧ z.2 ≤ M ∧ z.1.length ≤ 3 ∧ ∀ x ∈ z.1, x.length ≤ 3) := by
        intro row' hr'
        rw [w64n i (by omega)]
        refine ih (i + 1) (R ++ [row']) q hq0 (by omega) (by omega) (by simp; omega) (fun x hx => ?_)
        rcases List.mem_append.1 hx with hx | hx
        · exact hR x hx
        · have : x = row' := by simpa using hx
          rw [this]; exact hr'
      by_cases k0 : kind = 0
      · obtain ⟨z, hz, hQ⟩ := fin ((List.replicate ((c : Int)).toNat 0).set ((i : Int)).toNat 1) (by simp)
        exact ⟨z, Ev.step (fun _ => rfl) (ev_neg (by omega) (ev_pos k0 (ev_pos (by omega) (ev_pos (by omega) (Ev.bind (Ev.now _) (ev_pos (by omega) (ev_pos (by simp; omega) (ev_pos (by omega) hz)))))))), hQ⟩
      · by_cases k1 : kind = 1
        · have m1 := tmod_range ((i + 1 : Nat) : Int) (c : Int) (by omega) (by omega)
          obtain ⟨z, hz, hQ⟩ := fin (((List.replicate ((c : Int)).toNat 0).set ((i : Int)).toNat (-1)).set (Int.tmod (wrap64 ((i : Int) + 1)) (c : Int)).toNat (wrap64 ((rd ((List.replicate ((c : Int)).toNat 0).set ((i : Int)).toNat (-1)) (Int.tmod (wrap64 ((i : Int) + 1)) (c : Int))) + 1))) (by simp)
          exact ⟨z, Ev.step (fun _ => rfl) (ev_neg (by omega) (ev_neg k0 (ev_pos k1 (ev_pos (by omega) (ev_pos (by omega) (Ev.bind (Ev.now _) (ev_pos (by omega) (ev_pos (by simp; omega) (Ev.bind (Ev.now _) (ev_neg (by omega) (ev_pos (by rw [w64n i (by omega)]; exact m1.1) (ev_pos (by rw [w64n i (by omega)]; simp only [List.length_replicate, Int.toNat_natCast]; exact m1.2) (ev_pos (by omega) hz))))))))))))), hQ⟩
        · obtain ⟨z, hz, hQ⟩ := fin row hrl
          exact ⟨z, Ev.step (fun _ => rfl) (ev_neg (by omega) (ev_neg k0 (ev_neg k1 (ev_pos (by omega) hz)))), hQ⟩
    obtain ⟨z, hz, hQ⟩ := l20Rule_row hb c n kind R i (M - 6 * d - 2) (by omega) _ hc3 H c 0 (List.replicate c 0) p hp0 (by omega) (by omega) (by simp)
    exact ⟨z, Ev.step (fun _ => rfl) (ev_pos (by omega) (ev_pos (by omega) (ev_pos (by omega) hz))), hQ⟩
theorem l20Rule_ev {b : List Int} (hb : OkB b) {p : Int} (hp0 : 0 ≤ p) (hp : p ≤ 800000) (c n : Int) (hn0 : 1 ≤ n) (hn : n ≤ 1000000) :
    ∃ r p', Ev (fun k => spec_l20Rule.f k b p c n) (r, p') ∧ 0 ≤ p' ∧ p' ≤ p + 30 ∧ r.length ≤ 3 ∧ ∀ x ∈ r, x.length ≤ 3 := by
  obtain ⟨v, hv, hv0, hv1⟩ := pick_ev hb hp0 (by omega) 4 (by omega) (by omega)
  obtain ⟨m, hm, hm1, hm3⟩ : ∃ m : Nat, mn (mx c 1) 3 = (m : Int) ∧ 1 ≤ m ∧ m ≤ 3 := by
    have : 1 ≤ mn (mx c 1) 3 ∧ mn (mx c 1) 3 ≤ 3 := by unfold mn mx; split <;> split <;> omega
    exact ⟨(mn (mx c 1) 3).toNat, by omega, by omega, by omega⟩
  obtain ⟨z, hz, h1, h2, h3, h4⟩ := l20Rule_loop hb m hm1 hm3 n v hn0 hn (p + 30) (by omega) m 0 [] (p + 1) (by omega) (by omega) (by omega) rfl (by simp)
  refine ⟨z.1, z.2, ?_, h1, h2, h3, h4⟩
  unfold spec_l20Rule.f
  refine Ev.bind hv ?_
  rw [hm]
  exact hz

theorem l20Ruled_ev {b : List Int} (hb : OkB b) {p : Int} (hp0 : 0 ≤ p) (hp : p ≤ 700000) :
    ∃ u r w p', Ev (fun k => spec_l20Ruled.f k b p) (u, r, w, p') ∧ 0 ≤ p' ∧ p' ≤ p + 100 ∧ u.length ≤ 4 ∧ r.length ≤ 3 ∧ (∀ x ∈ r, x.length ≤ 3) ∧ w.length ≤ 7 := by
  obtain ⟨u, p1, hu, a1, a2, a3, a4⟩ := l20Urn_ev hb hp0 (by omega) 14 (by omega) (by omega)
  obtain ⟨r, p2, hr, b1, b2, b3, b4⟩ := l20Rule_ev hb (p := p1) (by omega) (by omega) (u.length : Int) 14 (by omega) (by omega)
  obtain ⟨w, p3, hw, c1, c2, c3, c4⟩ := l20Word_ev hb (p := p2) (by omega) (by omega) (u.length : Int) 14 (by omega) (by omega) (by omega)
  refine ⟨u, r, w, p3, ?_, by omega, by omega, a3, b3, b4, c3⟩
  unfold spec_l20Ruled.f
  exact Ev.bind hu (Ev.bind hr (Ev.bind hw (Ev.now _)))

theorem pickAny_ev {b : List Int} (hb : OkB b) {p : Int} (hp0 : 0 ≤ p) (hp : p ≤ 1000000) (n : Int) (hn0 : 0 ≤ n) (hn : n ≤ 1000000) : ∃ v, Ev (fun k => spec_l20Rd_pick.f k b p n) (v, p + 1) ∧ 0 ≤ v ∧ v ≤ 1000000 := by
  by_cases h : 1 ≤ n
  · obtain ⟨v, h1, h2, h3⟩ := pick_ev hb hp0 hp n h hn
    exact ⟨v, h1, h2, by omega⟩
  · refine ⟨0, ?_, by omega, by omega⟩
    unfold spec_l20Rd_pick.f
    rw [w64 (by omega) (by omega)]
    exact ev_pos (by omega) (Ev.step (fun _ => rfl) (Ev.now _))

theorem implRuleAll_ev (u : List Int) (r : List (List Int)) (m : Int) (hu : u.length ≤ 1000000000) (hl : r.length ≤ 100000000) (hr : ∀ x ∈ r, x.length ≤ 1000000000) : Ev (fun k => impl_RuleAll.f k u r m) (ruleAllP u r m) := by
  unfold impl_RuleAll.f
  exact ev_pos ⟨hu, hl, hr⟩ (Ev.now _)

theorem l4Balls_loop (c m n : Nat) (r : List (List Int)) (hr : RuleK c r) (q : Int) (q0 : 0 ≤ q) (q1 : q < (c : Int)) (u : List Int) (hn : Near 10 c n u) (hu : ∀ i : Nat, i < c → 0 ≤ rd u i) (h6 : n + (m + 1) ≤ 6) (ih : ∀ v, Near 10 c (n + 1) v → (∀ i : Nat, i < c → 0 ≤ rd v i) → Ev (fun k => spec_l4Balls.f k v r (m : Int) q) (wsum c m (ballF r q v))) (d : Nat) : ∀ i : Nat, i + d = c → Ev (fun k => spec_l4Balls.l0 k u r ((m + 1 : Nat) : Int) q (sumN (fun k => mx 0 (rd u (k : Int)) * wsum c m (ballF r q (addL u (rowR r (k : Int))))) i) (i : Int)) (sumN (fun k => mx 0 (rd u (k : Int)) * wsum c m (ballF r q (addL u (rowR r (k : Int))))) c) := by
  have hc := hr.c3
  have hT : ∀ i : Nat, i < c → 0 ≤ mx 0 (rd u (i : Int)) * wsum c m (ballF r q (addL u (rowR r (i : Int)))) ∧ mx 0 (rd u (i : Int)) * wsum c m (ballF r q (addL u (rowR r (i : Int)))) ≤ 58 * (729 * (38068692544 * 58)) := by
    intro i hi
    have h1 := near_rd hn (i : Int) (by omega) (by omega)
    by_cases hp : rd u (i : Int) > 0
    · have hv := pos_step hn.1 hr hu (i : Int) (by omega) (by omega) (by omega)
      rw [mx_r 0 _ (by omega)]
      have h3 := wsum_small c m hc (by omega) (38068692544 * 58) (by omega) (ballF r q (addL u (rowR r (i : Int)))) (fun w hl hw => balls58 hr q q0 q1 w (n + 1) _ (near_step hn hr (i : Int) (by omega) (by omega)) hv (by omega) hw)
      exact mulb (by omega) (by omega) h3.1 h3.2
    · rw [mx_l 0 _ (by omega), Int.zero_mul]
      omega
  induction d with
  | zero =>
    intro i hi
    refine Ev.step (fun _ => rfl) ?_
    obtain rfl : i = c := by omega
    exact ev_neg (by rw [hn.1]; omega) (Ev.now _)
  | succ d ihd =>
    intro i hi
    refine Ev.step (fun _ => rfl) ?_
    refine ev_pos (by rw [hn.1]; omega) (ev_pos (by omega) ?_)
    have h1 := hT i (by omega)
    have h2 := sumN_bound _ _ i (fun j hj => hT j (by omega))
    have h3 : (i : Int) * (58 * (729 * (38068692544 * 58))) ≤ 3 * (58 * (729 * (38068692544 * 58))) := Int.mul_le_mul_of_nonneg_right (by omega) (by omega)
    have hnx := ihd (i + 1) (by omega)
    simp only [sumN] at hnx
    by_cases hp : rd u (i : Int) > 0
    · rw [mx_r 0 _ (by omega)] at h1 hnx
      refine ev_pos hp (Ev.bind (l4After_ev c r hr u n (by omega) hn (i : Int) (by omega) (by omega)) ?_)
      rw [show wrap64 (((m + 1 : Nat) : Int) - 1) = (m : Int) from by rw [w64 (by omega) (by omega)]; omega]
      refine Ev.bind (ih _ (near_step hn hr (i : Int) (by omega) (by omega)) (pos_step hn.1 hr hu (i : Int) (by omega) (by omega) (by omega))) ?_
      rw [w64 (x := rd u (i : Int) * _) (by omega) (by omega), w64 (x := _ + _) (by omega) (by omega), w64n i (by omega)]
      exact hnx
    · rw [mx_l 0 _ (by omega), Int.zero_mul, Int.add_zero] at hnx
      refine ev_neg hp ?_
      rw [w64n i (by omega)]
      exact hnx
theorem l4Balls_ev (c : Nat) (r : List (List Int)) (hr : RuleK c r) (q : Int) (q0 : 0 ≤ q) (q1 : q < (c : Int)) : ∀ (m n : Nat) (u : List Int), Near 10 c n u → (∀ i : Nat, i < c → 0 ≤ rd u i) → n + m ≤ 6 → Ev (fun k => spec_l4Balls.f k u r (m : Int) q) (wsum c m (ballF r q u)) := by
  intro m
  induction m with
  | zero =>
    intro n u hn hu h6
    refine Ev.step (fun _ => by rw [spec_l4Balls.f]) ?_
    refine ev_pos rfl (ev_pos q0 (ev_pos (by rw [hn.1]; exact q1) (ev_eq (Ev.now _) ?_)))
    simp [wsum, ballF, waysL, afterL]
  | succ m ih =>
    intro n u hn hu h6
    refine Ev.step (fun _ => by rw [spec_l4Balls.f]) ?_
    refine ev_neg (by omega) ?_
    rw [wsum_balls]
    exact l4Balls_loop c m n r hr q q0 q1 u hn hu h6 (fun v hv hw => ih (n + 1) v hv hw (by omega)) c 0 (by omega)

theorem specBallSum_ev (u : List Int) (r : List (List Int)) (m q : Int) (hu : u.length ≤ 1000000000) (hl : r.length ≤ 100000000) (hr : ∀ x ∈ r, x.length ≤ 1000000000) : Ev (fun k => spec_BallSum.f k u r m q) (ballSumP u r m q) := by
  unfold spec_BallSum.f ballSumP
  refine Ev.bind (specStartOk_ev u hu) ?_
  by_cases h1 : startB u = true
  case neg =>
    refine ev_neg h1 (ev_eq (Ev.now _) ?_)
    rw [if_neg (by simp [h1])]
  refine ev_pos h1 (Ev.bind (specRuleOk_ev _ r hl hr) ?_)
  by_cases h2 : ruleB u.length r = true
  case neg =>
    refine ev_neg h2 (ev_eq (Ev.now _) ?_)
    rw [if_neg (by simp [h2])]
  refine ev_pos h2 ?_
  simp only [l1In_f, Option.bind_some]
  by_cases h3 : 0 ≤ m ∧ m ≤ 6
  case neg =>
    refine ev_neg (by simpa [inB] using h3) (ev_eq (Ev.now _) ?_)
    rw [if_neg (fun h => h3 h.2.1)]
  refine ev_pos (by simpa [inB] using h3) ?_
  have ha : (startB u && ruleB u.length r) = true := by rw [h1, h2]; rfl
  obtain ⟨hk, n1, n2, n3, n4⟩ := asked_known ha
  rw [w64 (x := (u.length : Int) - 1) (by omega) (by omega)]
  by_cases h4 : 0 ≤ q ∧ q < (u.length : Int)
  case neg =>
    refine ev_neg (by simp [inB]; omega) (ev_eq (Ev.now _) ?_)
    rw [if_neg (fun h => h4 h.2.2)]
  refine ev_pos (by simp [inB]; omega) ?_
  obtain ⟨n, rfl⟩ := Int.eq_ofNat_of_zero_le h3.1
  rw [if_pos ⟨ha, h3, h4⟩, Int.toNat_natCast]
  exact Ev.bind (l4Balls_ev _ r hk q h4.1 h4.2 n 0 u n1 n4 (by omega)) (Ev.now _)

theorem implBallSum_ev (u : List Int) (r : List (List Int)) (m q : Int) (hu : u.length ≤ 1000000000) (hl : r.length ≤ 100000000) (hr : ∀ x ∈ r, x.length ≤ 1000000000) : Ev (fun k => impl_BallSum.f k u r m q) (ballSumP u r m q) := by
  unfold impl_BallSum.f
  exact ev_pos ⟨hu, hl, hr⟩ (Ev.now _)

theorem DrawBallSum_ev (l : List Int) (hb : ∀ x ∈ l, (Lit.int .u8 x).wf = true) : ∃ u r m q, Ev (fun k => spec_DrawBallSum.f k l) (u, r, m, q) ∧ u.length ≤ 4 ∧ r.length ≤ 3 ∧ (∀ x ∈ r, x.length ≤ 3) := by
  obtain ⟨b, hf, hk⟩ := l20Open_f l hb
  obtain ⟨u, r, w, p', h, q1, q2, h1, h2, h3, h4⟩ := l20Ruled_ev hk (p := 0) (by omega) (by omega)
  obtain ⟨v1, e1, a1, b1⟩ := pick_ev hk (p := p') (by omega) (by omega) 5 (by omega) (by omega)
  obtain ⟨v2, e2, a2, b2⟩ := pick_ev hk (p := p' + 1) (by omega) (by omega) 40 (by omega) (by omega)
  obtain ⟨v3, e3, a3, b3⟩ := pickAny_ev hk (p := p' + 1 + 1) (by omega) (by omega) (u.length : Int) (by omega) (by omega)
  obtain ⟨v4, e4, a4, b4⟩ := pick_ev hk (p := p' + 1 + 1 + 1) (by omega) (by omega) 40 (by omega) (by omega)
  exact ⟨u, r, _, _, by
    unfold spec_DrawBallSum.f
    rw [hf]
    exact Ev.bind (Ev.now _) (Ev.bind h (Ev.bind e1 (Ev.bind e2 (Ev.bind e3 (Ev.bind e4 (Ev.now _)))))), h1, h2, h3⟩

theorem ballSum_at {u : List Int} {r : List (List Int)} (h : (startB u && ruleB u.length r) = true) (m : Nat) (hm : m ≤ 6) (q : Nat) (hq : q < u.length) : ballSumP u r m q = wsum u.length m (ballF r (q : Int) u) ∧ 0 ≤ wsum u.length m (ballF r (q : Int) u) ∧ wsum u.length m (ballF r (q : Int) u) ≤ 2000000000000000 := by
  obtain ⟨hk, n1, n2, n3, n4⟩ := asked_known h
  have hb := wsum_small u.length m n3 hm (38068692544 * 58) (by omega) (ballF r (q : Int) u) (fun w hl hw => balls58 hk q (by omega) (by omega) w 0 u n1 n4 (by omega) hw)
  refine ⟨?_, hb.1, by omega⟩
  unfold ballSumP
  rw [if_pos ⟨h, ⟨by omega, by omega⟩, by omega, by omega⟩, Int.toNat_natCast]
theorem ballSum_none {u : List Int} {r : List (List Int)} (h : (startB u && ruleB u.length r) = true) (q : Nat) (hq : q < u.length) : ballSumP u r 0 q = rd u (q : Int) := by
  have := (ballSum_at h 0 (by omega) q hq).1
  rw [show ((0 : Nat) : Int) = 0 from rfl] at this
  rw [this]
  simp [wsum, ballF, waysL, afterL]
theorem FnBallSum_loop (u : List Int) (r : List (List Int)) (hrl : r.length ≤ 100000000) (hrr : ∀ x ∈ r, x.length ≤ 1000000000) (h : (startB u && ruleB u.length r) = true) (m : Nat) (hm : m ≤ 6) (q : Nat) (hq : q < u.length) (d : Nat) : ∀ i : Nat, i + d = u.length → Ev (fun k => laws_FnBallSum.l0 k u r (m : Int) (q : Int) (sumN (fun j => wsum u.length m (ballF r (j : Int) u)) i) (i : Int)) true := by
  obtain ⟨hk, n1, n2, n3, n4⟩ := asked_known h
  obtain ⟨_, _, _, hu10, hurn⟩ := near_start (Bool.and_eq_true_iff.1 h).1
  have last : Ev (fun k => (impl_BallSum.f k u r 0 (q : Int)).bind fun t356 => (if 0 ≤ (q : Int) then (if (q : Int) < (u.length : Int) then (some (t356 == (rd u (q : Int)))) else (none)) else (none))) true := by
    refine Ev.bind (implBallSum_ev u r 0 q (by omega) hrl hrr) (ev_pos (by omega) (ev_pos (by omega) (ev_eq (Ev.now _) ?_)))
    rw [ballSum_none h q hq]
    simp
  induction d with
  | zero =>
    intro i hi
    refine Ev.step (fun _ => rfl) ?_
    have hi2 : i = u.length := by omega
    subst hi2
    refine ev_neg (by omega) (Ev.bind (implEvenRule_ev (u.length : Int) r hrl hrr) (Ev.bind (implRuleAll_ev u r m (by omega) hrl hrr) ?_))
    by_cases he : (evenP u.length r).2 = true
    · refine ev_pos he (Ev.bind (implTotalOf_ev u (by omega)) (ev_pos ?_ last))
      have hev : ruleB u.length r = true ∧ (∀ x ∈ r, tot x = tot (rowR r 0)) := by
        by_cases hh : ruleB u.length r = true ∧ (∀ x ∈ r, tot x = tot (rowR r 0))
        · exact hh
        · unfold evenP at he; rw [if_neg hh] at he; cases he
      have e1 : (evenP u.length r).1 = tot (rowR r 0) := by unfold evenP; rw [if_pos hev]
      have e2 : ruleAllP u r m = wsum u.length m (waysL r u) := by unfold ruleAllP; rw [if_pos ⟨h, by omega, by omega⟩, Int.toNat_natCast]
      have hs := sumN_bound (fun j => wsum u.length m (ballF r (j : Int) u)) 2000000000000000 u.length (fun j hj => (ballSum_at h m hm j hj).2)
      have hall := ball_all hk u rfl n4 (tot (rowR r 0)) hev.2 m
      have hrow := row_tot hk (rowR r 0) (rowR_range r 0 (by omega) (by rw [hk.len]; omega))
      have htu := tot_bound u 10 (by omega) hu10
      have h5 : (m : Int) * tot (rowR r 0) ≤ (m : Int) * 9 := Int.mul_le_mul_of_nonneg_left hrow.2 (by omega)
      have h6 : (m : Int) * (-9) ≤ (m : Int) * tot (rowR r 0) := Int.mul_le_mul_of_nonneg_left hrow.1 (by omega)
      rw [if_pos hurn, e1, e2]
      rw [w64 (x := (m : Int) * tot (rowR r 0)) (by omega) (by omega), w64 (x := tot u + (m : Int) * tot (rowR r 0)) (by omega) (by omega), ← hall, w64 (by omega) (by omega)]
    · exact ev_neg he last
  | succ d ih =>
    intro i hi
    refine Ev.step (fun _ => rfl) ?_
    obtain ⟨e1, e2, e3⟩ := ballSum_at h m (by omega) i (by omega)
    have hs := sumN_bound (fun j => wsum u.length m (ballF r (j : Int) u)) 2000000000000000 i (fun j hj => (ballSum_at h m (by omega) j (by omega)).2)
    refine ev_pos (by omega) (Ev.bind (implBallSum_ev u r m i (by omega) hrl hrr) ?_)
    rw [e1, w64n i (by omega), w64 (by omega) (by omega)]
    exact ih (i + 1) (by omega)
theorem FnBallSum : laws_FnBallSum.Pure := by
  intro l _ _ hb
  refine Ev.rounds (g := fun k => laws_FnBallSum.f k l) ?_
  unfold laws_FnBallSum.f
  by_cases h : (l.length : Int) > 1048576
  · exact ev_pos h (Ev.now _)
  refine ev_neg h ?_
  obtain ⟨u, r, m, q, hd, h1, h2, h3⟩ := DrawBallSum_ev l hb
  have hrr : ∀ x ∈ r, x.length ≤ 1000000000 := fun x hx => by have := h3 x hx; omega
  refine Ev.bind hd (Ev.bind (implBallSum_ev u r m q (by omega) (by omega) hrr) (Ev.bind (specBallSum_ev u r m q (by omega) (by omega) hrr) (ev_pos rfl ?_)))
  by_cases hc : (startB u && ruleB u.length r) = true ∧ (0 ≤ m ∧ m ≤ 6) ∧ 0 ≤ q ∧ q < u.length
  · obtain ⟨hs, ⟨m0, m6⟩, q0, q1⟩ := hc
    obtain ⟨m, rfl⟩ := Int.eq_ofNat_of_zero_le m0
    obtain ⟨q, rfl⟩ := Int.eq_ofNat_of_zero_le q0
    have := ballSum_at hs m (by omega) q (by omega)
    refine ev_neg (by omega) ?_
    exact FnBallSum_loop u r (by omega) hrr hs m (by omega) q (by omega) u.length 0 (by omega)
  · have e : ballSumP u r m q = -1 := by unfold ballSumP; rw [if_neg hc]
    rw [e]
    exact ev_pos (by omega) (ev_pos rfl (Ev.bind alive_ev (Ev.now _)))

end Go.Proofs.Ytdplpbhbacbcmaa.Pure
