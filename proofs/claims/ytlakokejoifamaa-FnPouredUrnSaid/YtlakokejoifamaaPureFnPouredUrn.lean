/- The law FnPouredUrn: for every input the printed function of the law answers true. No condition. -/
import Derived.Test.YtlakokejoifamaaPFnPouredUrnx3
import Derived.Test.YtlakokejoifamaaPlain
set_option linter.unusedVariables false
set_option linter.unusedSimpArgs false
namespace Go.Proofs.Ytlakokejoifamaa.Pure
open Go.RowKit Go.Proofs.Ytlakokejoifamaa.PFnPouredUrn Go.Proofs.YtlakokejoifamaaW.PrintWords Go.Proofs.YtlakokejoifamaaW.PrintLast Go.Proofs.YtlakokejoifamaaW.PrintMore Go.Proofs.Ytlakokejoifamaa.Plain

theorem l1In_f (x a b : Int) : spec_l1In.f x a b = some (inB x a b) := by
  unfold spec_l1In.f inB
  by_cases h : x ≥ a
  · rw [if_pos h]; congr 1; simp [h]
  · rw [if_neg h]; congr 1; simp; omega

theorem coloursOk_f (x : Int) : impl_coloursOk.f x = some (colB x) := by
  unfold impl_coloursOk.f colB
  by_cases h : x ≥ 1
  · rw [if_pos h]; congr 1; simp [h]
  · rw [if_neg h]; congr 1; simp; omega

theorem implUrnOk_loop (l : List Int) (hl : l.length ≤ 1000000000) (d : Nat) : ∀ i : Nat, i + d = l.length → Ev (fun k => impl_UrnOk.l0 k l l (l.length : Int) (i : Int)) ((l.drop i).all urnE && colB l.length) := by
  induction d with
  | zero =>
    intro i hi
    refine Ev.step (fun _ => rfl) ?_
    refine ev_neg (by omega) ?_
    rw [coloursOk_f, List.drop_eq_nil_of_le (by omega)]
    exact Ev.now _
  | succ d ih =>
    intro i hi
    refine Ev.step (fun _ => rfl) ?_
    refine ev_pos (by omega) (ev_pos (by omega) (ev_pos (by omega) ?_))
    rw [drop_rd l i (by omega), List.all_cons]
    by_cases h1 : rd l (i : Int) < 0
    · refine ev_pos h1 (ev_eq (Ev.now _) ?_)
      rw [show urnE (rd l (i : Int)) = false from by simp [urnE]; omega]; rfl
    · refine ev_neg h1 ?_
      by_cases h2 : rd l (i : Int) > 40
      · refine ev_pos h2 (ev_eq (Ev.now _) ?_)
        rw [show urnE (rd l (i : Int)) = false from by simp [urnE]; omega]; rfl
      · refine ev_neg h2 ?_
        rw [w64n i (by omega), show urnE (rd l (i : Int)) = true from by simp [urnE]; omega, Bool.true_and]
        exact ih (i + 1) (by omega)
theorem implUrnOk_ev (l : List Int) (hl : l.length ≤ 1000000000) : Ev (fun k => impl_UrnOk.f k l) (urnB l) := by
  unfold impl_UrnOk.f
  exact implUrnOk_loop l hl l.length 0 (by omega)

theorem specUrnOk_loop (l : List Int) (hl : l.length ≤ 1000000000) (d : Nat) : ∀ i : Nat, i + d = l.length → Ev (fun k => spec_UrnOk.l0 k l (i : Int)) ((l.drop i).all urnE && colB l.length) := by
  induction d with
  | zero =>
    intro i hi
    refine Ev.step (fun _ => rfl) ?_
    refine ev_neg (by omega) ?_
    rw [l1In_f, List.drop_eq_nil_of_le (by omega)]
    exact Ev.now _
  | succ d ih =>
    intro i hi
    refine Ev.step (fun _ => rfl) ?_
    refine ev_pos (by omega) (ev_pos (by omega) ?_)
    rw [drop_rd l i (by omega), List.all_cons, l1In_f, show inB (rd l (i : Int)) 0 40 = urnE (rd l (i : Int)) from rfl]
    cases h : urnE (rd l (i : Int)) with
    | false => exact Ev.now _
    | true =>
      simp only [Option.bind_some, if_true, Bool.true_and]
      rw [w64n i (by omega)]
      exact ih (i + 1) (by omega)
theorem specUrnOk_ev (l : List Int) (hl : l.length ≤ 1000000000) : Ev (fun k => spec_UrnOk.f k l) (urnB l) := by
  unfold spec_UrnOk.f
  exact specUrnOk_loop l hl l.length 0 (by omega)

theorem implSum_loop (l : List Int) (hl : l.length ≤ 1000) (B : Int) (hB : 0 ≤ B) (hB2 : B ≤ 1000000000) (hb : ∀ x ∈ l, -B ≤ x ∧ x ≤ B) (d : Nat) : ∀ i : Nat, i + d = l.length → Ev (fun k => impl_sum.l0 k (tot (l.take i)) l (l.length : Int) (i : Int)) (tot l) := by
  induction d with
  | zero =>
    intro i hi
    refine Ev.step (fun _ => rfl) ?_
    refine ev_neg (by omega) (ev_eq (Ev.now _) ?_)
    rw [List.take_of_length_le (by omega)]
  | succ d ih =>
    intro i hi
    refine Ev.step (fun _ => rfl) ?_
    refine ev_pos (by omega) (ev_pos (by omega) (ev_pos (by omega) ?_))
    have h1 := tot_abs (l.take i) B hB (fun x hx => hb x (List.mem_of_mem_take hx))
    have h2 := hb _ (rd_mem l i (by omega))
    have h3 : ((l.take i).length : Int) * B ≤ 1000 * 1000000000 := (mulb (by omega) (by rw [List.length_take]; omega) hB hB2).2
    have h4 : tot (l.take i) + rd l (i : Int) = tot (l.take (i + 1)) := by rw [take_rd l i (by omega), tot_append]; simp [tot]
    rw [w64n i (by omega), w64 (by omega) (by omega), h4]
    exact ih (i + 1) (by omega)
theorem implSum_ev (l : List Int) (hl : l.length ≤ 1000) (hb : ∀ x ∈ l, -1000000000 ≤ x ∧ x ≤ 1000000000) : Ev (fun k => impl_sum.f k l) (tot l) := by
  unfold impl_sum.f
  exact implSum_loop l hl 1000000000 (by omega) (by omega) hb l.length 0 (by omega)

theorem implTotalOf_ev (l : List Int) (hl : l.length ≤ 1000000000) : Ev (fun k => impl_TotalOf.f k l) (if urnB l = true then tot l else -1) := by
  unfold impl_TotalOf.f
  refine Ev.bind (implUrnOk_ev l hl) ?_
  by_cases h : urnB l = true
  · rw [if_pos h]
    obtain ⟨h1, h2, h3⟩ := urnB_bounds h
    exact ev_pos h (Ev.bind (implSum_ev l (by omega) (fun x hx => by have := h1 x hx; omega)) (Ev.now _))
  · rw [if_neg h]
    exact ev_neg h (Ev.now _)

theorem l20Open_f (l : List Int) (hb : ∀ x ∈ l, (Lit.int .u8 x).wf = true) : ∃ b, spec_l20Open.f l = some (b, 0) ∧ OkB b := by
  unfold spec_l20Open.f
  by_cases h : (l.length : Int) > 2000
  · rw [if_pos h, if_pos (by omega)]
    exact ⟨_, rfl, fun x hx => u8_wf (hb x (List.mem_of_mem_take hx)), by rw [List.length_take]; omega⟩
  · rw [if_neg h]
    exact ⟨_, rfl, fun x hx => u8_wf (hb x hx), by omega⟩

theorem pick_ev {b : List Int} (hb : OkB b) {p : Int} (hp0 : 0 ≤ p) (hp : p ≤ 1000000) (n : Int) (hn0 : 1 ≤ n) (hn : n ≤ 1000000) : ∃ v, Ev (fun k => spec_l20Rd_pick.f k b p n) (v, p + 1) ∧ 0 ≤ v ∧ v < n := by
  obtain ⟨hb1, hb2⟩ := hb
  unfold spec_l20Rd_pick.f
  have e1 : wrap64 (p + 1) = p + 1 := w64 (by omega) (by omega)
  by_cases h0 : b.length = 0
  · refine ⟨0, ev_neg (by omega) ?_, by omega, by omega⟩
    rw [show ((b.length : Int) == 0) = true from by simp [h0], e1]
    exact Ev.step (fun _ => rfl) (Ev.now _)
  · have hz : ((b.length : Int) == 0) = false := by simp; intro hh; exact h0 (by simp [hh])
    have hat : ∀ i : Int, 0 ≤ i → i < b.length → 0 ≤ rd b i ∧ rd b i ≤ 255 := fun i h1 h2 => hb1 _ (rd_range b i h1 h2)
    have e2 : wrap64 (p + 1 - 1) = p := by rw [show p + 1 - 1 = p by omega]; exact w64 (by omega) (by omega)
    by_cases h1 : p < (b.length : Int)
    · have hr := hat p hp0 h1
      have ht := tmod_range (rd b p) n hr.1 (by omega)
      refine ⟨Int.tmod (rd b p) n, ev_neg (by omega) ?_, ht.1, ht.2⟩
      rw [hz, e1]
      refine Ev.step (fun _ => by rw [spec_l20Rd_pick.j0]) (ev_neg (by simp) ?_)
      rw [e2, w64 (x := rd b p) (by omega) (by omega)]
      exact ev_pos h1 (ev_pos hp0 (ev_neg (by omega) (Ev.now _)))
    · have m1 := tmod_range p (b.length : Int) hp0 (by omega)
      have e3 : wrap64 (p * 7) = p * 7 := w64 (by omega) (by omega)
      have e4 : wrap64 (p * 7 + 3) = p * 7 + 3 := w64 (by omega) (by omega)
      have m2 := tmod_range (p * 7 + 3) (b.length : Int) (by omega) (by omega)
      have r1 := hat _ m1.1 m1.2
      have r2 := hat _ m2.1 m2.2
      have d1 := tdiv_range p (b.length : Int) hp0 (by omega)
      have key : ∀ x y z : Int, 0 ≤ x → x ≤ 255 → 0 ≤ y → y ≤ 255 → 0 ≤ z → z ≤ 1000000 →
          wrap64 (wrap64 (wrap64 (wrap64 (wrap64 x * 131) + wrap64 (wrap64 y * 1117)) + wrap64 (p * 29)) + wrap64 (wrap64 z * 53)) = x * 131 + y * 1117 + p * 29 + z * 53 := by
        intro x y z _ _ _ _ _ _
        rw [w64 (x := x) (by omega) (by omega), w64 (x := y) (by omega) (by omega), w64 (x := z) (by omega) (by omega), w64 (x := x * 131) (by omega) (by omega), w64 (x := y * 1117) (by omega) (by omega), w64 (x := p * 29) (by omega) (by omega), w64 (x := z * 53) (by omega) (by omega),
          w64 (x := x * 131 + y * 1117) (by omega) (by omega), w64 (x := x * 131 + y * 1117 + p * 29) (by omega) (by omega), w64 (by omega) (by omega)]
      obtain ⟨X, hX, hX0, hX1⟩ : ∃ X, wrap64 (wrap64 (wrap64 (wrap64 (wrap64 (rd b (Int.tmod p b.length)) * 131) + wrap64 (wrap64 (rd b (Int.tmod (p * 7 + 3) b.length)) * 1117)) + wrap64 (p * 29)) + wrap64 (wrap64 (Int.tdiv p b.length) * 53)) = X ∧ 0 ≤ X ∧ X ≤ 100000000 :=
        ⟨_, key _ _ _ r1.1 r1.2 r2.1 r2.2 d1.1 (by omega), by omega, by omega⟩
      have d2 := tdiv_range X 64 hX0 (by omega)
      have hx := xor_nonneg X (Int.tdiv X 64) hX0 (by omega) d2.1 (by omega)
      have ht := tmod_range _ n hx (by omega)
      refine ⟨Int.tmod (Go.bits .xor .i64 X (Int.tdiv X 64)) n, ev_neg (by omega) ?_, ht.1, ht.2⟩
      rw [hz, e1]
      refine Ev.step (fun _ => by rw [spec_l20Rd_pick.j0]) (ev_neg (by simp) ?_)
      rw [e2, e3, e4, hX, w64 (x := Int.tdiv X 64) (by omega) (by omega)]
      exact ev_neg h1 (ev_neg (by omega) (ev_pos m1.1 (ev_pos m1.2 (ev_pos m2.1 (ev_pos m2.2 (ev_neg (by omega) (Ev.now _)))))))

theorem odd_ev {b : List Int} (hb : OkB b) {p : Int} (hp0 : 0 ≤ p) (hp : p ≤ 1000000) (n : Int) (hn0 : 1 ≤ n) (hn : n ≤ 1000000) : ∃ v, Ev (fun k => spec_l20Rd_odd.f k b p n) (v, p + 1) := by
  obtain ⟨v, hv, _, _⟩ := pick_ev hb hp0 hp n hn0 hn
  unfold spec_l20Rd_odd.f
  exact ⟨_, ev_pos (by omega) (Ev.bind hv (Ev.now _))⟩

theorem l20Urn_loop {b : List Int} (hb : OkB b) (n : Int) (hn0 : 1 ≤ n) (hn : n ≤ 1000000) (d : Nat) : ∀ (l : List Int) (p : Int), 0 ≤ p → p + d ≤ 900000 → d ≤ 3 → 1 ≤ l.length + d → l.length + d ≤ 3 → (∀ x ∈ l, 0 ≤ x ∧ x ≤ 5) →
    ∃ u p', Ev (fun k => spec_l20Urn.l0 k n l (d : Int) b p) (u, p') ∧ p ≤ p' ∧ p' ≤ p + d + 5 ∧ u.length ≤ 4 ∧ ∀ x ∈ u, -1 ≤ x ∧ x ≤ 41 := by
  induction d with
  | zero =>
    intro l p hp0 hp _ hl1 hl2 hx
    obtain ⟨v, hv⟩ := odd_ev hb hp0 (by omega) n hn0 hn
    cases v with
    | false =>
      exact ⟨l, p + 1, Ev.step (fun _ => rfl) (ev_neg (by omega) (Ev.bind hv (Ev.now _))), by omega, by omega, by omega, fun x h => by have := hx x h; omega⟩
    | true =>
      obtain ⟨w, hw, hw0, hw1⟩ := pick_ev hb (p := p + 1) (by omega) (by omega) 3 (by omega) (by omega)
      by_cases h0 : w = 0
      · exact ⟨[], p + 1 + 1, Ev.step (fun _ => rfl) (ev_neg (by omega) (Ev.bind hv (Ev.bind hw (ev_pos h0 (Ev.now _))))), by omega, by omega, by simp, fun x h => by simp at h⟩
      · by_cases h1 : w = 1
        · obtain ⟨y, hy, hy0, hy1⟩ := pick_ev hb (p := p + 1 + 1) (by omega) (by omega) 2 (by omega) (by omega)
          refine ⟨l.set 0 (rd [-1, 41] y), p + 1 + 1 + 1, Ev.step (fun _ => rfl) (ev_neg (by omega) (Ev.bind hv (Ev.bind hw (ev_neg h0 (ev_pos h1 (Ev.bind (Ev.now _) (Ev.bind hy (ev_pos hy0 (ev_pos (by simpa using hy1) (ev_pos (by omega) (Ev.now _))))))))))), by omega, by omega, by rw [List.length_set]; omega, ?_⟩
          intro x h
          rcases List.mem_or_eq_of_mem_set h with h | rfl
          · have := hx x h; omega
          · have : y = 0 ∨ y = 1 := by omega
            rcases this with rfl | rfl <;> simp [rd]
        · exact ⟨[1, 1, 1, 1], p + 1 + 1, Ev.step (fun _ => rfl) (ev_neg (by omega) (Ev.bind hv (Ev.bind hw (ev_neg h0 (ev_neg h1 (Ev.now _)))))), by omega, by omega, by simp, fun x h => by simp at h; omega⟩
  | succ d ih =>
    intro l p hp0 hp hd hl1 hl2 hx
    obtain ⟨v, hv, hv0, hv1⟩ := pick_ev hb hp0 (by omega) 6 (by omega) (by omega)
    obtain ⟨u, p', hu, h1, h2, h3, h4⟩ := ih (l ++ [v]) (p + 1) (by omega) (by omega) (by omega) (by simp; omega) (by simp; omega) (fun x h => by
      rcases List.mem_append.1 h with h | h
      · exact hx x h
      · have : x = v := by simpa using h
        omega)
    refine ⟨u, p', Ev.step (fun _ => rfl) (ev_pos (by omega) (Ev.bind hv (ev_pos (by omega) ?_))), by omega, by omega, h3, h4⟩
    rw [w64 (by omega) (by omega), show ((d + 1 : Nat) : Int) - 1 = (d : Int) from by omega]
    exact hu
theorem l20Urn_ev {b : List Int} (hb : OkB b) {p : Int} (hp0 : 0 ≤ p) (hp : p ≤ 800000) (n : Int) (hn0 : 1 ≤ n) (hn : n ≤ 1000000) :
    ∃ u p', Ev (fun k => spec_l20Urn.f k b p n) (u, p') ∧ p ≤ p' ∧ p' ≤ p + 11 ∧ u.length ≤ 4 ∧ ∀ x ∈ u, -1 ≤ x ∧ x ≤ 41 := by
  obtain ⟨v, hv, hv0, hv1⟩ := pick_ev hb hp0 (by omega) 3 (by omega) (by omega)
  obtain ⟨m, rfl⟩ := Int.eq_ofNat_of_zero_le hv0
  obtain ⟨u, p', hu, h1, h2, h3, h4⟩ := l20Urn_loop hb n hn0 hn (1 + m) [] (p + 1) (by omega) (by omega) (by omega) (by simp) (by simp; omega) (by simp)
  refine ⟨u, p', ?_, by omega, by omega, h3, h4⟩
  unfold spec_l20Urn.f
  refine Ev.bind hv ?_
  rw [w64 (by omega) (by omega), show (1 : Int) + (m : Int) = ((1 + m : Nat) : Int) from by omega]
  exact hu

theorem alive_ev : Ev (fun k => laws_alive.f k) true := by
  unfold laws_alive.f
  exact Ev.bind (implUrnOk_ev [1] (by simp)) (ev_pos (by decide) (Ev.bind (implUrnOk_ev [] (by simp)) (Ev.now _)))

theorem Clone_f (l : List Int) (hl : l.length ≤ 1000000000) : slices_Clone_int_int.f l = some l := by
  unfold slices_Clone_int_int.f
  simp only [Option.bind_some]
  rw [if_pos (by simp; omega)]; rfl

theorem implAdded_set (a b : List Int) (h : b.length = a.length) (i : Nat) (hi : i < b.length) : ((addL a b).take i ++ a.drop i).set i (rd ((addL a b).take i ++ a.drop i) (i : Int) + rd b (i : Int)) = (addL a b).take (i + 1) ++ a.drop (i + 1) := by
  have hl := addL_length a b h
  have e1 : ((addL a b).take i).length = i := by rw [List.length_take]; omega
  have e2 : rd ((addL a b).take i ++ a.drop i) (i : Int) = rd a (i : Int) := by
    rw [rd_nat _ i (by rw [List.length_append, e1, List.length_drop]; omega), rd_nat a i (by omega), List.getElem_append_right (by omega)]
    simp only [e1, Nat.sub_self, List.getElem_drop, Nat.add_zero]
  rw [e2, List.set_append_right _ _ (by omega), e1, Nat.sub_self, drop_rd a i (by omega), List.set_cons_zero, take_rd (addL a b) i (by omega), addL_rd a b i (by omega) h, List.append_assoc]
  rfl
theorem implAdded_loop (a b : List Int) (h : b.length = a.length) (hl : b.length ≤ 1000) (hb : ∀ i : Nat, i < b.length → -1000000 ≤ rd a i + rd b i ∧ rd a i + rd b i ≤ 1000000) (d : Nat) : ∀ i : Nat, i + d = b.length → Ev (fun k => impl_added.l0 k ((addL a b).take i ++ a.drop i) b (b.length : Int) (i : Int)) (addL a b) := by
  have hla := addL_length a b h
  induction d with
  | zero =>
    intro i hi
    refine Ev.step (fun _ => rfl) ?_
    refine ev_neg (by omega) (ev_eq (Ev.now _) ?_)
    rw [List.take_of_length_le (by omega), List.drop_eq_nil_of_le (by omega), List.append_nil]
  | succ d ih =>
    intro i hi
    refine Ev.step (fun _ => rfl) ?_
    refine ev_pos (by omega) (ev_pos (by omega) (ev_pos (by omega) (ev_pos (by rw [List.length_append, List.length_take, List.length_drop]; omega) ?_)))
    have e1 : ((addL a b).take i).length = i := by rw [List.length_take]; omega
    have e2 : rd ((addL a b).take i ++ a.drop i) (i : Int) = rd a (i : Int) := by
      rw [rd_nat _ i (by rw [List.length_append, e1, List.length_drop]; omega), rd_nat a i (by omega), List.getElem_append_right (by omega)]
      simp only [e1, Nat.sub_self, List.getElem_drop, Nat.add_zero]
    have hbi := hb i (by omega)
    rw [w64n i (by omega), w64 (by rw [e2]; omega) (by rw [e2]; omega), show ((i : Int)).toNat = i from by simp, implAdded_set a b h i (by omega)]
    exact ih (i + 1) (by omega)
theorem implAdded_ev (a b : List Int) (h : b.length = a.length) (hl : b.length ≤ 1000) (hb : ∀ i : Nat, i < b.length → -1000000 ≤ rd a i + rd b i ∧ rd a i + rd b i ≤ 1000000) : Ev (fun k => impl_added.f k a b) (addL a b) := by
  unfold impl_added.f
  rw [Clone_f a (by omega)]
  refine Ev.bind (Ev.now _) ?_
  have := implAdded_loop a b h hl hb b.length 0 (by omega)
  simpa using this

theorem sameInts_loop (l : List Int) (hl : l.length ≤ 1000000000) (d : Nat) : ∀ i : Nat, i + d = l.length → Ev (fun k => laws_sameInts.l0 k l l (i : Int)) true := by
  induction d with
  | zero =>
    intro i hi
    refine Ev.step (fun _ => rfl) ?_
    exact ev_neg (by omega) (Ev.now _)
  | succ d ih =>
    intro i hi
    refine Ev.step (fun _ => rfl) ?_
    refine ev_pos (by omega) (ev_pos (by omega) (ev_pos (by omega) (ev_pos rfl ?_)))
    rw [w64n i (by omega)]
    exact ih (i + 1) (by omega)
theorem sameInts_ev (l : List Int) (hl : l.length ≤ 1000000000) : Ev (fun k => laws_sameInts.f k l l) true := by
  unfold laws_sameInts.f
  exact ev_pos rfl (sameInts_loop l hl l.length 0 (by omega))

theorem specPouredUrn_loop (a b : List Int) (ha : ∀ x ∈ a, 0 ≤ x ∧ x ≤ 40) (hb : ∀ x ∈ b, 0 ≤ x ∧ x ≤ 40) (hl : a.length ≤ 3) (h : b.length = a.length) (d : Nat) : ∀ i : Nat, i + d = a.length → Ev (fun k => spec_PouredUrn.l0 k a b ((addL a b).take i) (i : Int)) (if urnB (addL a b) = true then (addL a b, true) else ([], false)) := by
  have hla := addL_length a b h
  induction d with
  | zero =>
    intro i hi
    refine Ev.step (fun _ => rfl) ?_
    refine ev_neg (by omega) ?_
    rw [List.take_of_length_le (by omega)]
    refine Ev.bind (specUrnOk_ev _ (by omega)) ?_
    by_cases h6 : urnB (addL a b) = true
    · refine ev_pos h6 ?_; rw [if_pos h6]; exact Ev.now _
    · refine ev_neg h6 ?_; rw [if_neg h6]; exact Ev.now _
  | succ d ih =>
    intro i hi
    refine Ev.step (fun _ => rfl) ?_
    refine ev_pos (by omega) (ev_pos (by omega) (ev_pos (by omega) (ev_pos (by rw [List.length_take]; omega) ?_)))
    have h2 := ha _ (rd_mem a i (by omega)); have h3 := hb _ (rd_mem b i (by omega))
    rw [w64n i (by omega), w64 (by omega) (by omega), ← addL_rd a b i (by omega) h, ← take_rd _ i (by omega)]
    exact ih (i + 1) (by omega)
theorem specPouredUrn_ev (a b : List Int) (ha : a.length ≤ 1000000000) (hb : b.length ≤ 1000000000) : Ev (fun k => spec_PouredUrn.f k a b) (pourP a b) := by
  have no : Ev (fun k => spec_PouredUrn.j0 k a b true) ([], false) := Ev.step (fun _ => rfl) (Ev.now _)
  unfold spec_PouredUrn.f pourP
  refine Ev.bind (specUrnOk_ev a ha) ?_
  by_cases h : urnB a = true
  · refine ev_pos h (Ev.bind (specUrnOk_ev b hb) ?_)
    by_cases h2 : urnB b = true
    · refine ev_pos h2 ?_
      obtain ⟨a1, a2, a3⟩ := urnB_bounds h
      obtain ⟨b1, b2, b3⟩ := urnB_bounds h2
      by_cases h3 : a.length = b.length
      · rw [show ((a.length : Int) != (b.length : Int)) = false from by simp [h3]]
        have := specPouredUrn_loop a b a1 b1 a3 h3.symm a.length 0 (by omega)
        refine Ev.step (fun _ => rfl) (ev_eq this ?_)
        by_cases h6 : urnB (addL a b) = true
        · rw [if_pos h6, if_pos ⟨⟨h, h2, h3⟩, h6⟩]
        · rw [if_neg h6, if_neg (fun hh => h6 hh.2)]
      · rw [show ((a.length : Int) != (b.length : Int)) = true from by simp; omega, if_neg (fun hh => h3 hh.1.2.2)]
        exact no
    · refine ev_neg h2 ?_
      rw [if_neg (fun hh => h2 hh.1.2.1)]; exact no
  · refine ev_neg h ?_
    rw [if_neg (fun hh => h hh.1.1)]; exact no

theorem implPouredUrn_ev (a b : List Int) (ha : a.length ≤ 1000000000) (hb : b.length ≤ 1000000000) : Ev (fun k => impl_PouredUrn.f k a b) (pourP a b) := by
  have no : Ev (fun k => impl_PouredUrn.j0 k a b true) ([], false) := Ev.step (fun _ => rfl) (Ev.now _)
  unfold impl_PouredUrn.f pourP
  refine Ev.bind (implUrnOk_ev a ha) ?_
  by_cases h : urnB a = true
  · refine ev_pos h (Ev.bind (implUrnOk_ev b hb) ?_)
    by_cases h2 : urnB b = true
    · refine ev_pos h2 ?_
      obtain ⟨a1, a2, a3⟩ := urnB_bounds h
      obtain ⟨b1, b2, b3⟩ := urnB_bounds h2
      by_cases h3 : a.length = b.length
      · rw [show ((a.length : Int) != (b.length : Int)) = false from by simp [h3]]
        refine Ev.step (fun _ => by rw [impl_PouredUrn.j0]) ?_
        refine ev_neg (by simp) ?_
        refine Ev.bind (implAdded_ev a b h3.symm (by omega) (fun i hi => ?_)) ?_
        · have e1 := a1 _ (rd_mem a i (by omega)); have e2 := b1 _ (rd_mem b i hi)
          omega
        · refine Ev.bind (implUrnOk_ev _ (by rw [addL_length a b h3.symm]; omega)) ?_
          by_cases h6 : urnB (addL a b) = true
          · refine ev_pos h6 ?_; rw [if_pos ⟨⟨h, h2, h3⟩, h6⟩]; exact Ev.now _
          · refine ev_neg h6 ?_; rw [if_neg (fun hh => h6 hh.2)]; exact Ev.now _
      · rw [show ((a.length : Int) != (b.length : Int)) = true from by simp; omega, if_neg (fun hh => h3 hh.1.2.2)]
        exact no
    · refine ev_neg h2 ?_
      rw [if_neg (fun hh => h2 hh.1.2.1)]; exact no
  · refine ev_neg h ?_
    rw [if_neg (fun hh => h hh.1.1)]; exact no

theorem DrawPouredUrn_loop {b : List Int} (hb : OkB b) (u : List Int) (hu : u.length ≤ 4) (d : Nat) : ∀ (i : Nat) (l : List Int) (p : Int), 0 ≤ p → p + 4 * d ≤ 900000 → i + d = u.length + 1 → l.length = i →
    ∃ z, Ev (fun k => spec_DrawPouredUrn.l0 k u l (i : Int) b p) (u, z) ∧ z.length ≤ 5 := by
  induction d with
  | zero =>
    intro i l p hp0 hp hi hl
    obtain ⟨v, hv, hv0, hv1⟩ := pick_ev hb hp0 (by omega) 20 (by omega) (by omega)
    refine ⟨l, Ev.step (fun _ => rfl) (Ev.bind hv (ev_neg ?_ (Ev.now _))), by omega⟩
    have := Int.tdiv_eq_ediv_of_nonneg (b := 19) hv0
    simp only
    rw [this, w64 (x := v / 19) (by omega) (by omega), w64 (by omega) (by omega)]
    omega
  | succ d ih =>
    intro i l p hp0 hp hi hl
    obtain ⟨v, hv, hv0, hv1⟩ := pick_ev hb hp0 (by omega) 20 (by omega) (by omega)
    by_cases hlt : (i : Int) < wrap64 ((u.length : Int) + wrap64 (Int.tdiv v 19))
    · obtain ⟨v1, hv1, a1, a2⟩ := pick_ev hb (p := p + 1) (by omega) (by omega) 5 (by omega) (by omega)
      obtain ⟨v2, hv2, a3, a4⟩ := pick_ev hb (p := p + 1 + 1) (by omega) (by omega) 40 (by omega) (by omega)
      obtain ⟨z, hz, h3⟩ := ih (i + 1) (l ++ [wrap64 (v1 + wrap64 (wrap64 (Int.tdiv v2 39) * 39))]) (p + 1 + 1 + 1) (by omega) (by omega) (by omega) (by simp; omega)
      refine ⟨z, Ev.step (fun _ => rfl) (Ev.bind hv (ev_pos hlt (Ev.bind hv1 (Ev.bind hv2 (ev_pos (by omega) ?_))))), h3⟩
      rw [w64n i (by omega)]
      exact hz
    · exact ⟨l, Ev.step (fun _ => rfl) (Ev.bind hv (ev_neg hlt (Ev.now _))), by omega⟩
theorem DrawPouredUrn_ev (l : List Int) (hb : ∀ x ∈ l, (Lit.int .u8 x).wf = true) : ∃ u z, Ev (fun k => spec_DrawPouredUrn.f k l) (u, z) ∧ u.length ≤ 4 ∧ z.length ≤ 5 := by
  obtain ⟨b, hf, hk⟩ := l20Open_f l hb
  obtain ⟨u, p', hu, h1, h2, h3, _⟩ := l20Urn_ev hk (p := 0) (by omega) (by omega) 14 (by omega) (by omega)
  obtain ⟨z, hz, h4⟩ := DrawPouredUrn_loop hk u h3 (u.length + 1) 0 [] p' (by omega) (by omega) (by omega) rfl
  refine ⟨u, z, ?_, h3, h4⟩
  unfold spec_DrawPouredUrn.f
  rw [hf]
  exact Ev.bind (Ev.now _) (Ev.bind hu hz)

theorem FnPouredUrn : laws_FnPouredUrn.Pure := by
  intro l hl0 _ hb
  refine Ev.rounds (g := fun k => laws_FnPouredUrn.f k l) ?_
  unfold laws_FnPouredUrn.f
  by_cases h : (l.length : Int) > 1048576
  · exact ev_pos h (Ev.now _)
  refine ev_neg h ?_
  obtain ⟨a, b, hd, hla, hlb⟩ := DrawPouredUrn_ev l hb
  have hlen := pourP_len a b
  refine Ev.bind hd (Ev.bind (implPouredUrn_ev a b (by omega) (by omega)) (Ev.bind (specPouredUrn_ev a b (by omega) (by omega)) (Ev.bind (sameInts_ev _ (by omega)) (ev_pos rfl ?_))))
  refine Ev.step (fun _ => by rw [laws_FnPouredUrn.j0]) ?_
  refine ev_neg (by simp) ?_
  by_cases hp : (urnB a = true ∧ urnB b = true ∧ a.length = b.length) ∧ urnB (addL a b) = true
  · have e0 : pourP a b = (addL a b, true) := by unfold pourP; rw [if_pos hp]
    have e1 : pourP b a = (addL a b, true) := by unfold pourP; rw [addL_comm b a, if_pos ⟨⟨hp.1.2.1, hp.1.1, hp.1.2.2.symm⟩, hp.2⟩]
    have hi := implPouredUrn_ev b a (by omega) (by omega)
    rw [e1] at hi
    rw [e0]
    have hl2 := addL_length a b hp.1.2.2.symm
    have t1 := implTotalOf_ev (addL a b) (by omega)
    have t2 := implTotalOf_ev a (by omega)
    have t3 := implTotalOf_ev b (by omega)
    rw [if_pos hp.2] at t1
    rw [if_pos hp.1.1] at t2
    rw [if_pos hp.1.2.1] at t3
    have ht := tot_addL a b hp.1.2.2.symm
    have b1 := tot_bound a 40 (by omega) (urnB_bounds hp.1.1).1
    have b2 := tot_bound b 40 (by omega) (urnB_bounds hp.1.2.1).1
    refine ev_pos rfl (Ev.bind hi (ev_pos rfl (Ev.bind (sameInts_ev (addL a b) (by omega)) (ev_pos rfl (Ev.bind t1 (Ev.bind t2 (Ev.bind t3 (ev_pos ?_ (Ev.bind (implUrnOk_ev (addL a b) (by omega)) (ev_eq (Ev.now _) hp.2))))))))))
    rw [w64 (by omega) (by omega), ht]
  · have e0 : pourP a b = ([], false) := by unfold pourP; rw [if_neg hp]
    rw [e0]
    exact ev_neg (by simp) (ev_pos rfl (Ev.bind alive_ev (Ev.now _)))

end Go.Proofs.Ytlakokejoifamaa.Pure
