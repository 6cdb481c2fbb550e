/- The law FnPutIn: for every input the printed function of the law answers true. No condition. -/
import Derived.Test.YtlakokejoifamaaPFnPutInx3
import Derived.Test.YtlakokejoifamaaPlain
set_option linter.unusedVariables false
set_option linter.unusedSimpArgs false
namespace Go.Proofs.Ytlakokejoifamaa.Pure
open Go.RowKit Go.Proofs.Ytlakokejoifamaa.PFnPutIn Go.Proofs.YtlakokejoifamaaW.PrintWords Go.Proofs.YtlakokejoifamaaW.PrintLast Go.Proofs.YtlakokejoifamaaW.PrintMore Go.Proofs.Ytlakokejoifamaa.Plain

theorem l1In_f (x a b : Int) : spec_l1In.f x a b = some (inB x a b) := by
  unfold spec_l1In.f inB
  by_cases h : x ≥ a
  · rw [if_pos h]; congr 1; simp [h]
  · rw [if_neg h]; congr 1; simp; omega

theorem coloursOk_f (x : Int) : impl_coloursOk.f x = some (colB x) := by
  unfold impl_coloursOk.f colB
  by_cases h : x ≥ 1
  · rw [if_pos h]; congr 1; simp [h]
  · rw [if_neg h]; congr 1; simp; omega

theorem implUrnOk_loop (l : List Int) (hl : l.length ≤ 1000000000) (d : Nat) : ∀ i : Nat, i + d = l.length → Ev (fun k => impl_UrnOk.l0 k l l (l.length : Int) (i : Int)) ((l.drop i).all urnE && colB l.length) := by
  induction d with
  | zero =>
    intro i hi
    refine Ev.step (fun _ => rfl) ?_
    refine ev_neg (by omega) ?_
    rw [coloursOk_f, List.drop_eq_nil_of_le (by omega)]
    exact Ev.now _
  | succ d ih =>
    intro i hi
    refine Ev.step (fun _ => rfl) ?_
    refine ev_pos (by omega) (ev_pos (by omega) (ev_pos (by omega) ?_))
    rw [drop_rd l i (by omega), List.all_cons]
    by_cases h1 : rd l (i : Int) < 0
    · refine ev_pos h1 (ev_eq (Ev.now _) ?_)
      rw [show urnE (rd l (i : Int)) = false from by simp [urnE]; omega]; rfl
    · refine ev_neg h1 ?_
      by_cases h2 : rd l (i : Int) > 40
      · refine ev_pos h2 (ev_eq (Ev.now _) ?_)
        rw [show urnE (rd l (i : Int)) = false from by simp [urnE]; omega]; rfl
      · refine ev_neg h2 ?_
        rw [w64n i (by omega), show urnE (rd l (i : Int)) = true from by simp [urnE]; omega, Bool.true_and]
        exact ih (i + 1) (by omega)
theorem implUrnOk_ev (l : List Int) (hl : l.length ≤ 1000000000) : Ev (fun k => impl_UrnOk.f k l) (urnB l) := by
  unfold impl_UrnOk.f
  exact implUrnOk_loop l hl l.length 0 (by omega)

theorem specUrnOk_loop (l : List Int) (hl : l.length ≤ 1000000000) (d : Nat) : ∀ i : Nat, i + d = l.length → Ev (fun k => spec_UrnOk.l0 k l (i : Int)) ((l.drop i).all urnE && colB l.length) := by
  induction d with
  | zero =>
    intro i hi
    refine Ev.step (fun _ => rfl) ?_
    refine ev_neg (by omega) ?_
    rw [l1In_f, List.drop_eq_nil_of_le (by omega)]
    exact Ev.now _
  | succ d ih =>
    intro i hi
    refine Ev.step (fun _ => rfl) ?_
    refine ev_pos (by omega) (ev_pos (by omega) ?_)
    rw [drop_rd l i (by omega), List.all_cons, l1In_f, show inB (rd l (i : Int)) 0 40 = urnE (rd l (i : Int)) from rfl]
    cases h : urnE (rd l (i : Int)) with
    | false => exact Ev.now _
    | true =>
      simp only [Option.bind_some, if_true, Bool.true_and]
      rw [w64n i (by omega)]
      exact ih (i + 1) (by omega)
theorem specUrnOk_ev (l : List Int) (hl : l.length ≤ 1000000000) : Ev (fun k => spec_UrnOk.f k l) (urnB l) := by
  unfold spec_UrnOk.f
  exact specUrnOk_loop l hl l.length 0 (by omega)

theorem implSum_loop (l : List Int) (hl : l.length ≤ 1000) (B : Int) (hB : 0 ≤ B) (hB2 : B ≤ 1000000000) (hb : ∀ x ∈ l, -B ≤ x ∧ x ≤ B) (d : Nat) : ∀ i : Nat, i + d = l.length → Ev (fun k => impl_sum.l0 k (tot (l.take i)) l (l.length : Int) (i : Int)) (tot l) := by
  induction d with
  | zero =>
    intro i hi
    refine Ev.step (fun _ => rfl) ?_
    refine ev_neg (by omega) (ev_eq (Ev.now _) ?_)
    rw [List.take_of_length_le (by omega)]
  | succ d ih =>
    intro i hi
    refine Ev.step (fun _ => rfl) ?_
    refine ev_pos (by omega) (ev_pos (by omega) (ev_pos (by omega) ?_))
    have h1 := tot_abs (l.take i) B hB (fun x hx => hb x (List.mem_of_mem_take hx))
    have h2 := hb _ (rd_mem l i (by omega))
    have h3 : ((l.take i).length : Int) * B ≤ 1000 * 1000000000 := (mulb (by omega) (by rw [List.length_take]; omega) hB hB2).2
    have h4 : tot (l.take i) + rd l (i : Int) = tot (l.take (i + 1)) := by rw [take_rd l i (by omega), tot_append]; simp [tot]
    rw [w64n i (by omega), w64 (by omega) (by omega), h4]
    exact ih (i + 1) (by omega)
theorem implSum_ev (l : List Int) (hl : l.length ≤ 1000) (hb : ∀ x ∈ l, -1000000000 ≤ x ∧ x ≤ 1000000000) : Ev (fun k => impl_sum.f k l) (tot l) := by
  unfold impl_sum.f
  exact implSum_loop l hl 1000000000 (by omega) (by omega) hb l.length 0 (by omega)

theorem implTotalOf_ev (l : List Int) (hl : l.length ≤ 1000000000) : Ev (fun k => impl_TotalOf.f k l) (if urnB l = true then tot l else -1) := by
  unfold impl_TotalOf.f
  refine Ev.bind (implUrnOk_ev l hl) ?_
  by_cases h : urnB l = true
  · rw [if_pos h]
    obtain ⟨h1, h2, h3⟩ := urnB_bounds h
    exact ev_pos h (Ev.bind (implSum_ev l (by omega) (fun x hx => by have := h1 x hx; omega)) (Ev.now _))
  · rw [if_neg h]
    exact ev_neg h (Ev.now _)

theorem l20Open_f (l : List Int) (hb : ∀ x ∈ l, (Lit.int .u8 x).wf = true) : ∃ b, spec_l20Open.f l = some (b, 0) ∧ OkB b := by
  unfold spec_l20Open.f
  by_cases h : (l.length : Int) > 2000
  · rw [if_pos h, if_pos (by omega)]
    exact ⟨_, rfl, fun x hx => u8_wf (hb x (List.mem_of_mem_take hx)), by rw [List.length_take]; omega⟩
  · rw [if_neg h]
    exact ⟨_, rfl, fun x hx => u8_wf (hb x hx), by omega⟩

theorem pick_ev {b : List Int} (hb : OkB b) {p : Int} (hp0 : 0 ≤ p) (hp : p ≤ 1000000) (n : Int) (hn0 : 1 ≤ n) (hn : n ≤ 1000000) : ∃ v, Ev (fun k => spec_l20Rd_pick.f k b p n) (v, p + 1) ∧ 0 ≤ v ∧ v < n := by
  obtain ⟨hb1, hb2⟩ := hb
  unfold spec_l20Rd_pick.f
  have e1 : wrap64 (p + 1) = p + 1 := w64 (by omega) (by omega)
  by_cases h0 : b.length = 0
  · refine ⟨0, ev_neg (by omega) ?_, by omega, by omega⟩
    rw [show ((b.length : Int) == 0) = true from by simp [h0], e1]
    exact Ev.step (fun _ => rfl) (Ev.now _)
  · have hz : ((b.length : Int) == 0) = false := by simp; intro hh; exact h0 (by simp [hh])
    have hat : ∀ i : Int, 0 ≤ i → i < b.length → 0 ≤ rd b i ∧ rd b i ≤ 255 := fun i h1 h2 => hb1 _ (rd_range b i h1 h2)
    have e2 : wrap64 (p + 1 - 1) = p := by rw [show p + 1 - 1 = p by omega]; exact w64 (by omega) (by omega)
    by_cases h1 : p < (b.length : Int)
    · have hr := hat p hp0 h1
      have ht := tmod_range (rd b p) n hr.1 (by omega)
      refine ⟨Int.tmod (rd b p) n, ev_neg (by omega) ?_, ht.1, ht.2⟩
      rw [hz, e1]
      refine Ev.step (fun _ => by rw [spec_l20Rd_pick.j0]) (ev_neg (by simp) ?_)
      rw [e2, w64 (x := rd b p) (by omega) (by omega)]
      exact ev_pos h1 (ev_pos hp0 (ev_neg (by omega) (Ev.now _)))
    · have m1 := tmod_range p (b.length : Int) hp0 (by omega)
      have e3 : wrap64 (p * 7) = p * 7 := w64 (by omega) (by omega)
      have e4 : wrap64 (p * 7 + 3) = p * 7 + 3 := w64 (by omega) (by omega)
      have m2 := tmod_range (p * 7 + 3) (b.length : Int) (by omega) (by omega)
      have r1 := hat _ m1.1 m1.2
      have r2 := hat _ m2.1 m2.2
      have d1 := tdiv_range p (b.length : Int) hp0 (by omega)
      have key : ∀ x y z : Int, 0 ≤ x → x ≤ 255 → 0 ≤ y → y ≤ 255 → 0 ≤ z → z ≤ 1000000 →
          wrap64 (wrap64 (wrap64 (wrap64 (wrap64 x * 131) + wrap64 (wrap64 y * 1117)) + wrap64 (p * 29)) + wrap64 (wrap64 z * 53)) = x * 131 + y * 1117 + p * 29 + z * 53 := by
        intro x y z _ _ _ _ _ _
        rw [w64 (x := x) (by omega) (by omega), w64 (x := y) (by omega) (by omega), w64 (x := z) (by omega) (by omega), w64 (x := x * 131) (by omega) (by omega), w64 (x := y * 1117) (by omega) (by omega), w64 (x := p * 29) (by omega) (by omega), w64 (x := z * 53) (by omega) (by omega),
          w64 (x := x * 131 + y * 1117) (by omega) (by omega), w64 (x := x * 131 + y * 1117 + p * 29) (by omega) (by omega), w64 (by omega) (by omega)]
      obtain ⟨X, hX, hX0, hX1⟩ : ∃ X, wrap64 (wrap64 (wrap64 (wrap64 (wrap64 (rd b (Int.tmod p b.length)) * 131) + wrap64 (wrap64 (rd b (Int.tmod (p * 7 + 3) b.length)) * 1117)) + wrap64 (p * 29)) + wrap64 (wrap64 (Int.tdiv p b.length) * 53)) = X ∧ 0 ≤ X ∧ X ≤ 100000000 :=
        ⟨_, key _ _ _ r1.1 r1.2 r2.1 r2.2 d1.1 (by omega), by omega, by omega⟩
      have d2 := tdiv_range X 64 hX0 (by omega)
      have hx := xor_nonneg X (Int.tdiv X 64) hX0 (by omega) d2.1 (by omega)
      have ht := tmod_range _ n hx (by omega)
      refine ⟨Int.tmod (Go.bits .xor .i64 X (Int.tdiv X 64)) n, ev_neg (by omega) ?_, ht.1, ht.2⟩
      rw [hz, e1]
      refine Ev.step (fun _ => by rw [spec_l20Rd_pick.j0]) (ev_neg (by simp) ?_)
      rw [e2, e3, e4, hX, w64 (x := Int.tdiv X 64) (by omega) (by omega)]
      exact ev_neg h1 (ev_neg (by omega) (ev_pos m1.1 (ev_pos m1.2 (ev_pos m2.1 (ev_pos m2.2 (ev_neg (by omega) (Ev.now _)))))))

theorem odd_ev {b : List Int} (hb : OkB b) {p : Int} (hp0 : 0 ≤ p) (hp : p ≤ 1000000) (n : Int) (hn0 : 1 ≤ n) (hn : n ≤ 1000000) : ∃ v, Ev (fun k => spec_l20Rd_odd.f k b p n) (v, p + 1) := by
  obtain ⟨v, hv, _, _⟩ := pick_ev hb hp0 hp n hn0 hn
  unfold spec_l20Rd_odd.f
  exact ⟨_, ev_pos (by omega) (Ev.bind hv (Ev.now _))⟩

theorem l20Urn_loop {b : List Int} (hb : OkB b) (n : Int) (hn0 : 1 ≤ n) (hn : n ≤ 1000000) (d : Nat) : ∀ (l : List Int) (p : Int), 0 ≤ p → p + d ≤ 900000 → d ≤ 3 → 1 ≤ l.length + d → l.length + d ≤ 3 → (∀ x ∈ l, 0 ≤ x ∧ x ≤ 5) →
    ∃ u p', Ev (fun k => spec_l20Urn.l0 k n l (d : Int) b p) (u, p') ∧ p ≤ p' ∧ p' ≤ p + d + 5 ∧ u.length ≤ 4 ∧ ∀ x ∈ u, -1 ≤ x ∧ x ≤ 41 := by
  induction d with
  | zero =>
    intro l p hp0 hp _ hl1 hl2 hx
    obtain ⟨v, hv⟩ := odd_ev hb hp0 (by omega) n hn0 hn
    cases v with
    | false =>
      exact ⟨l, p + 1, Ev.step (fun _ => rfl) (ev_neg (by omega) (Ev.bind hv (Ev.now _))), by omega, by omega, by omega, fun x h => by have := hx x h; omega⟩
    | true =>
      obtain ⟨w, hw, hw0, hw1⟩ := pick_ev hb (p := p + 1) (by omega) (by omega) 3 (by omega) (by omega)
      by_cases h0 : w = 0
      · exact ⟨[], p + 1 + 1, Ev.step (fun _ => rfl) (ev_neg (by omega) (Ev.bind hv (Ev.bind hw (ev_pos h0 (Ev.now _))))), by omega, by omega, by simp, fun x h => by simp at h⟩
      · by_cases h1 : w = 1
        · obtain ⟨y, hy, hy0, hy1⟩ := pick_ev hb (p := p + 1 + 1) (by omega) (by omega) 2 (by omega) (by omega)
          refine ⟨l.set 0 (rd [-1, 41] y), p + 1 + 1 + 1, Ev.step (fun _ => rfl) (ev_neg (by omega) (Ev.bind hv (Ev.bind hw (ev_neg h0 (ev_pos h1 (Ev.bind (Ev.now _) (Ev.bind hy (ev_pos hy0 (ev_pos (by simpa using hy1) (ev_pos (by omega) (Ev.now _))))))))))), by omega, by omega, by rw [List.length_set]; omega, ?_⟩
          intro x h
          rcases List.mem_or_eq_of_mem_set h with h | rfl
          · have := hx x h; omega
          · have : y = 0 ∨ y = 1 := by omega
            rcases this with rfl | rfl <;> simp [rd]
        · exact ⟨[1, 1, 1, 1], p + 1 + 1, Ev.step (fun _ => rfl) (ev_neg (by omega) (Ev.bind hv (Ev.bind hw (ev_neg h0 (ev_neg h1 (Ev.now _)))))), by omega, by omega, by simp, fun x h => by simp at h; omega⟩
  | succ d ih =>
    intro l p hp0 hp hd hl1 hl2 hx
    obtain ⟨v, hv, hv0, hv1⟩ := pick_ev hb hp0 (by omega) 6 (by omega) (by omega)
    obtain ⟨u, p', hu, h1, h2, h3, h4⟩ := ih (l ++ [v]) (p + 1) (by omega) (by omega) (by omega) (by simp; omega) (by simp; omega) (fun x h => by
      rcases List.mem_append.1 h with h | h
      · exact hx x h
      · have : x = v := by simpa using h
        omega)
    refine ⟨u, p', Ev.step (fun _ => rfl) (ev_pos (by omega) (Ev.bind hv (ev_pos (by omega) ?_))), by omega, by omega, h3, h4⟩
    rw [w64 (by omega) (by omega), show ((d + 1 : Nat) : Int) - 1 = (d : Int) from by omega]
    exact hu
theorem l20Urn_ev {b : List Int} (hb : OkB b) {p : Int} (hp0 : 0 ≤ p) (hp : p ≤ 800000) (n : Int) (hn0 : 1 ≤ n) (hn : n ≤ 1000000) :
    ∃ u p', Ev (fun k => spec_l20Urn.f k b p n) (u, p') ∧ p ≤ p' ∧ p' ≤ p + 11 ∧ u.length ≤ 4 ∧ ∀ x ∈ u, -1 ≤ x ∧ x ≤ 41 := by
  obtain ⟨v, hv, hv0, hv1⟩ := pick_ev hb hp0 (by omega) 3 (by omega) (by omega)
  obtain ⟨m, rfl⟩ := Int.eq_ofNat_of_zero_le hv0
  obtain ⟨u, p', hu, h1, h2, h3, h4⟩ := l20Urn_loop hb n hn0 hn (1 + m) [] (p + 1) (by omega) (by omega) (by omega) (by simp) (by simp; omega) (by simp)
  refine ⟨u, p', ?_, by omega, by omega, h3, h4⟩
  unfold spec_l20Urn.f
  refine Ev.bind hv ?_
  rw [w64 (by omega) (by omega), show (1 : Int) + (m : Int) = ((1 + m : Nat) : Int) from by omega]
  exact hu

theorem alive_ev : Ev (fun k => laws_alive.f k) true := by
  unfold laws_alive.f
  exact Ev.bind (implUrnOk_ev [1] (by simp)) (ev_pos (by decide) (Ev.bind (implUrnOk_ev [] (by simp)) (Ev.now _)))

theorem Clone_f (l : List Int) (hl : l.length ≤ 1000000000) : slices_Clone_int_int.f l = some l := by
  unfold slices_Clone_int_int.f
  simp only [Option.bind_some]
  rw [if_pos (by simp; omega)]; rfl

theorem sameInts_loop (l : List Int) (hl : l.length ≤ 1000000000) (d : Nat) : ∀ i : Nat, i + d = l.length → Ev (fun k => laws_sameInts.l0 k l l (i : Int)) true := by
  induction d with
  | zero =>
    intro i hi
    refine Ev.step (fun _ => rfl) ?_
    exact ev_neg (by omega) (Ev.now _)
  | succ d ih =>
    intro i hi
    refine Ev.step (fun _ => rfl) ?_
    refine ev_pos (by omega) (ev_pos (by omega) (ev_pos (by omega) (ev_pos rfl ?_)))
    rw [w64n i (by omega)]
    exact ih (i + 1) (by omega)
theorem sameInts_ev (l : List Int) (hl : l.length ≤ 1000000000) : Ev (fun k => laws_sameInts.f k l l) true := by
  unfold laws_sameInts.f
  exact ev_pos rfl (sameInts_loop l hl l.length 0 (by omega))

theorem specPutIn_ev (u : List Int) (c m : Int) (hl : u.length ≤ 1000000000) : Ev (fun k => spec_PutIn.f k u c m) (putP u c m) := by
  have no : Ev (fun k => spec_PutIn.j0 k u c m true) ([], false) := Ev.step (fun _ => rfl) (Ev.now _)
  unfold spec_PutIn.f putP
  refine Ev.bind (specUrnOk_ev u hl) ?_
  by_cases h : urnB u = true
  · obtain ⟨h1, h2, h3⟩ := urnB_bounds h
    refine ev_pos h ?_
    rw [l1In_f, w64 (by omega) (by omega), l1In_f]
    refine Ev.bind (Ev.now _) ?_
    by_cases h4 : 0 ≤ c ∧ c < u.length
    · refine ev_pos (by simp [inB]; omega) (Ev.bind (Ev.now _) ?_)
      by_cases h5 : -40 ≤ m ∧ m ≤ 40
      · have hr := h1 _ (rd_range u c h4.1 h4.2)
        rw [show (!inB m (-40) 40) = false from by simp [inB]; omega]
        refine Ev.step (fun _ => by rw [spec_PutIn.j0]) ?_
        refine ev_neg (by simp) ?_
        refine Ev.bind (Ev.now _) ?_
        refine ev_pos (by simp; omega) ?_
        refine Ev.bind (Ev.now _) ?_
        refine ev_pos h4.1 ?_
        refine ev_pos (by simp; omega) ?_
        refine Ev.bind (Ev.now _) ?_
        rw [List.nil_append, w64 (by omega) (by omega)]
        refine Ev.bind (specUrnOk_ev _ (by rw [List.length_set]; omega)) ?_
        by_cases h6 : urnB (u.set c.toNat (rd u c + m)) = true
        · refine ev_pos h6 ?_; rw [if_pos ⟨⟨h, h4.1, h4.2, h5.1, h5.2⟩, h6⟩]; exact Ev.now _
        · refine ev_neg h6 ?_; rw [if_neg (fun hh => h6 hh.2)]; exact Ev.now _
      · rw [if_neg (fun hh => h5 hh.1.2.2.2), show (!inB m (-40) 40) = true from by simp [inB]; omega]
        exact no
    · refine ev_neg (by simp [inB]; omega) ?_
      rw [if_neg (fun hh => h4 ⟨hh.1.2.1, hh.1.2.2.1⟩)]; exact no
  · refine ev_neg h ?_
    rw [if_neg (fun hh => h hh.1.1)]; exact no

theorem implPutIn_ev (u : List Int) (c m : Int) (hl : u.length ≤ 1000000000) : Ev (fun k => impl_PutIn.f k u c m) (putP u c m) := by
  have no : Ev (fun k => impl_PutIn.j0 k u c m true) ([], false) := Ev.step (fun _ => rfl) (Ev.now _)
  unfold impl_PutIn.f putP
  refine Ev.bind (implUrnOk_ev u hl) ?_
  by_cases h : urnB u = true
  · obtain ⟨h1, h2, h3⟩ := urnB_bounds h
    refine ev_pos h ?_
    by_cases a1 : c < 0
    · refine ev_pos a1 ?_
      rw [if_neg (by omega)]; exact no
    refine ev_neg a1 ?_
    by_cases a2 : c ≥ (u.length : Int)
    · refine ev_pos a2 ?_
      rw [if_neg (by omega)]; exact no
    refine ev_neg a2 ?_
    by_cases a3 : m > 40
    · refine ev_pos a3 ?_
      rw [if_neg (by omega)]; exact no
    refine ev_neg a3 ?_
    by_cases a4 : m < -40
    · rw [decide_eq_true a4, if_neg (by omega)]; exact no
    · have hr := h1 _ (rd_range u c (by omega) (by omega))
      rw [decide_eq_false a4]
      refine Ev.step (fun _ => by rw [impl_PutIn.j0]) ?_
      refine ev_neg (by simp) ?_
      rw [Clone_f u hl]
      refine Ev.bind (Ev.now _) ?_
      refine ev_pos (by omega) ?_
      refine ev_pos (by omega) ?_
      refine Ev.bind (Ev.now _) ?_
      rw [w64 (by omega) (by omega)]
      refine Ev.bind (implUrnOk_ev _ (by rw [List.length_set]; omega)) ?_
      by_cases h6 : urnB (u.set c.toNat (rd u c + m)) = true
      · refine ev_pos h6 ?_; rw [if_pos ⟨⟨h, by omega, by omega, by omega, by omega⟩, h6⟩]; exact Ev.now _
      · refine ev_neg h6 ?_; rw [if_neg (fun hh => h6 hh.2)]; exact Ev.now _
  · refine ev_neg h ?_
    rw [if_neg (fun hh => h hh.1.1)]; exact no

theorem pickAny_ev {b : List Int} (hb : OkB b) {p : Int} (hp0 : 0 ≤ p) (hp : p ≤ 1000000) (n : Int) (hn0 : 0 ≤ n) (hn : n ≤ 1000000) : ∃ v, Ev (fun k => spec_l20Rd_pick.f k b p n) (v, p + 1) ∧ 0 ≤ v ∧ v ≤ 1000000 := by
  by_cases h : 1 ≤ n
  · obtain ⟨v, h1, h2, h3⟩ := pick_ev hb hp0 hp n h hn
    exact ⟨v, h1, h2, by omega⟩
  · refine ⟨0, ?_, by omega, by omega⟩
    unfold spec_l20Rd_pick.f
    rw [w64 (by omega) (by omega)]
    exact ev_pos (by omega) (Ev.step (fun _ => rfl) (Ev.now _))

theorem DrawPutIn_ev (l : List Int) (hb : ∀ x ∈ l, (Lit.int .u8 x).wf = true) : ∃ u c m, Ev (fun k => spec_DrawPutIn.f k l) (u, c, m) ∧ u.length ≤ 4 := by
  obtain ⟨b, hf, hk⟩ := l20Open_f l hb
  obtain ⟨u, p, hu, h1, h2, h3, _⟩ := l20Urn_ev hk (p := 0) (by omega) (by omega) 14 (by omega) (by omega)
  obtain ⟨v1, e1, _⟩ := pickAny_ev hk (p := p) (by omega) (by omega) (u.length : Int) (by omega) (by omega)
  obtain ⟨v2, e2, _⟩ := pick_ev hk (p := p + 1) (by omega) (by omega) 40 (by omega) (by omega)
  obtain ⟨v3, e3, _⟩ := pick_ev hk (p := p + 1 + 1) (by omega) (by omega) 9 (by omega) (by omega)
  obtain ⟨v4, e4, _⟩ := pick_ev hk (p := p + 1 + 1 + 1) (by omega) (by omega) 30 (by omega) (by omega)
  exact ⟨u, _, _, by
    unfold spec_DrawPutIn.f
    rw [hf]
    exact Ev.bind (Ev.now _) (Ev.bind hu (Ev.bind e1 (Ev.bind e2 (Ev.bind e3 (Ev.bind e4 (Ev.now _)))))), h3⟩

theorem set_back (u : List Int) (i : Nat) (m : Int) (h : i < u.length) : (u.set i (rd u (i : Int) + m)).set i (rd (u.set i (rd u (i : Int) + m)) (i : Int) + -m) = u := by
  have e : rd (u.set i (rd u (i : Int) + m)) (i : Int) = rd u (i : Int) + m := by rw [rd_nat _ i (by rw [List.length_set]; exact h), List.getElem_set_self]
  rw [e, List.set_set, show rd u (i : Int) + m + -m = rd u (i : Int) from by omega, rd_nat u i h]
  exact List.set_getElem_self h
theorem tot_set (u : List Int) : ∀ (i : Nat) (z : Int), i < u.length → tot (u.set i z) = tot u - rd u (i : Int) + z := by
  induction u with
  | nil => intro i z h; simp at h
  | cons x u ih =>
    intro i z h
    cases i with
    | zero => simp [tot, rd]; omega
    | succ i =>
      have := ih i z (by simpa using h)
      have e : rd (x :: u) ((i + 1 : Nat) : Int) = rd u (i : Int) := by simp [rd]
      rw [List.set_cons_succ, tot, this, e, tot]; omega
theorem FnPutIn : laws_FnPutIn.Pure := by
  intro l hl0 _ hb
  refine Ev.rounds (g := fun k => laws_FnPutIn.f k l) ?_
  unfold laws_FnPutIn.f
  by_cases h : (l.length : Int) > 1048576
  · exact ev_pos h (Ev.now _)
  refine ev_neg h ?_
  obtain ⟨u, c, m, hd, hl⟩ := DrawPutIn_ev l hb
  have hlen := putP_len u c m
  refine Ev.bind hd (Ev.bind (implPutIn_ev u c m (by omega)) (Ev.bind (specPutIn_ev u c m (by omega)) (Ev.bind (sameInts_ev _ (by omega)) (ev_pos rfl ?_))))
  refine Ev.step (fun _ => by rw [laws_FnPutIn.j0]) ?_
  refine ev_neg (by simp) ?_
  by_cases hp : (urnB u = true ∧ 0 ≤ c ∧ c < u.length ∧ -40 ≤ m ∧ m ≤ 40) ∧ urnB (u.set c.toNat (rd u c + m)) = true
  · have e : putP u c m = (u.set c.toNat (rd u c + m), true) := by unfold putP; rw [if_pos hp]
    rw [e]
    obtain ⟨⟨hu, hc0, hc1, hm0, hm1⟩, hu2⟩ := hp
    obtain ⟨n, rfl⟩ := Int.eq_ofNat_of_zero_le hc0
    rw [Int.toNat_natCast] at hu2 ⊢
    have hsb := set_back u n m (by omega)
    have hpb : putP (u.set n (rd u (n : Int) + m)) (n : Int) (-m) = (u, true) := by
      unfold putP
      rw [Int.toNat_natCast, hsb, if_pos ⟨⟨hu2, by omega, by rw [List.length_set]; omega, by omega, by omega⟩, hu⟩]
    have hi := implPutIn_ev (u.set n (rd u (n : Int) + m)) (n : Int) (-m) (by rw [List.length_set]; omega)
    rw [hpb] at hi
    have t1 := implTotalOf_ev (u.set n (rd u (n : Int) + m)) (by rw [List.length_set]; omega)
    have t2 := implTotalOf_ev u (by omega)
    rw [if_pos hu2] at t1
    rw [if_pos hu] at t2
    have hts := tot_set u n (rd u (n : Int) + m) (by omega)
    have htb := tot_bound u 40 (by omega) (urnB_bounds hu).1
    rw [w64 (x := -m) (by omega) (by omega)]
    refine ev_pos rfl (Ev.bind hi (ev_pos rfl (Ev.bind (sameInts_ev u (by omega)) (ev_pos rfl (Ev.bind t1 (Ev.bind t2 (ev_eq (Ev.now _) ?_)))))))
    show (tot (u.set n (rd u (n : Int) + m)) == wrap64 (tot u + m)) = true
    rw [w64 (by omega) (by omega), hts]
    simp; omega
  · have e : putP u c m = ([], false) := by unfold putP; rw [if_neg hp]
    rw [e]
    exact ev_neg (by simp) (ev_pos rfl (Ev.bind alive_ev (Ev.now _)))

end Go.Proofs.Ytlakokejoifamaa.Pure
