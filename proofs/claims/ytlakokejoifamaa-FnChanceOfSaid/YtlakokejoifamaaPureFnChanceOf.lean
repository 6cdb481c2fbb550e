/- The law FnChanceOf: for every input the printed function of the law answers true. No condition. -/
import Derived.Test.YtlakokejoifamaaPFnChanceOfx4
import Derived.Test.YtlakokejoifamaaPlain
set_option linter.unusedVariables false
set_option linter.unusedSimpArgs false
namespace Go.Proofs.Ytlakokejoifamaa.Pure
open Go.RowKit Go.Proofs.Ytlakokejoifamaa.PFnChanceOf Go.Proofs.YtlakokejoifamaaW.PrintWords Go.Proofs.YtlakokejoifamaaW.PrintLast Go.Proofs.YtlakokejoifamaaW.PrintMore Go.Proofs.Ytlakokejoifamaa.Plain

theorem l1In_f (x a b : Int) : spec_l1In.f x a b = some (inB x a b) := by
  unfold spec_l1In.f inB
  by_cases h : x ≥ a
  · rw [if_pos h]; congr 1; simp [h]
  · rw [if_neg h]; congr 1; simp; omega

theorem coloursOk_f (x : Int) : impl_coloursOk.f x = some (colB x) := by
  unfold impl_coloursOk.f colB
  by_cases h : x ≥ 1
  · rw [if_pos h]; congr 1; simp [h]
  · rw [if_neg h]; congr 1; simp; omega

theorem implUrnOk_loop (l : List Int) (hl : l.length ≤ 1000000000) (d : Nat) : ∀ i : Nat, i + d = l.length → Ev (fun k => impl_UrnOk.l0 k l l (l.length : Int) (i : Int)) ((l.drop i).all urnE && colB l.length) := by
  induction d with
  | zero =>
    intro i hi
    refine Ev.step (fun _ => rfl) ?_
    refine ev_neg (by omega) ?_
    rw [coloursOk_f, List.drop_eq_nil_of_le (by omega)]
    exact Ev.now _
  | succ d ih =>
    intro i hi
    refine Ev.step (fun _ => rfl) ?_
    refine ev_pos (by omega) (ev_pos (by omega) (ev_pos (by omega) ?_))
    rw [drop_rd l i (by omega), List.all_cons]
    by_cases h1 : rd l (i : Int) < 0
    · refine ev_pos h1 (ev_eq (Ev.now _) ?_)
      rw [show urnE (rd l (i : Int)) = false from by simp [urnE]; omega]; rfl
    · refine ev_neg h1 ?_
      by_cases h2 : rd l (i : Int) > 40
      · refine ev_pos h2 (ev_eq (Ev.now _) ?_)
        rw [show urnE (rd l (i : Int)) = false from by simp [urnE]; omega]; rfl
      · refine ev_neg h2 ?_
        rw [w64n i (by omega), show urnE (rd l (i : Int)) = true from by simp [urnE]; omega, Bool.true_and]
        exact ih (i + 1) (by omega)
theorem implUrnOk_ev (l : List Int) (hl : l.length ≤ 1000000000) : Ev (fun k => impl_UrnOk.f k l) (urnB l) := by
  unfold impl_UrnOk.f
  exact implUrnOk_loop l hl l.length 0 (by omega)

theorem specUrnOk_loop (l : List Int) (hl : l.length ≤ 1000000000) (d : Nat) : ∀ i : Nat, i + d = l.length → Ev (fun k => spec_UrnOk.l0 k l (i : Int)) ((l.drop i).all urnE && colB l.length) := by
  induction d with
  | zero =>
    intro i hi
    refine Ev.step (fun _ => rfl) ?_
    refine ev_neg (by omega) ?_
    rw [l1In_f, List.drop_eq_nil_of_le (by omega)]
    exact Ev.now _
  | succ d ih =>
    intro i hi
    refine Ev.step (fun _ => rfl) ?_
    refine ev_pos (by omega) (ev_pos (by omega) ?_)
    rw [drop_rd l i (by omega), List.all_cons, l1In_f, show inB (rd l (i : Int)) 0 40 = urnE (rd l (i : Int)) from rfl]
    cases h : urnE (rd l (i : Int)) with
    | false => exact Ev.now _
    | true =>
      simp only [Option.bind_some, if_true, Bool.true_and]
      rw [w64n i (by omega)]
      exact ih (i + 1) (by omega)
theorem specUrnOk_ev (l : List Int) (hl : l.length ≤ 1000000000) : Ev (fun k => spec_UrnOk.f k l) (urnB l) := by
  unfold spec_UrnOk.f
  exact specUrnOk_loop l hl l.length 0 (by omega)

theorem l1Total_loop (l : List Int) (hl : l.length ≤ 1000) (B : Int) (hB : 0 ≤ B) (hB2 : B ≤ 1000000000) (hb : ∀ x ∈ l, -B ≤ x ∧ x ≤ B) (d : Nat) : ∀ i : Nat, i + d = l.length → Ev (fun k => spec_l1Total.l0 k l (tot (l.take i)) (i : Int)) (tot l) := by
  induction d with
  | zero =>
    intro i hi
    refine Ev.step (fun _ => rfl) ?_
    refine ev_neg (by omega) (ev_eq (Ev.now _) ?_)
    rw [List.take_of_length_le (by omega)]
  | succ d ih =>
    intro i hi
    refine Ev.step (fun _ => rfl) ?_
    refine ev_pos (by omega) (ev_pos (by omega) ?_)
    have h1 := tot_abs (l.take i) B hB (fun x hx => hb x (List.mem_of_mem_take hx))
    have h2 := hb _ (rd_mem l i (by omega))
    have h3 : ((l.take i).length : Int) * B ≤ 1000 * 1000000000 := (mulb (by omega) (by rw [List.length_take]; omega) hB hB2).2
    have h4 : tot (l.take i) + rd l (i : Int) = tot (l.take (i + 1)) := by rw [take_rd l i (by omega), tot_append]; simp [tot]
    rw [w64n i (by omega), w64 (by omega) (by omega), h4]
    exact ih (i + 1) (by omega)
theorem l1Total_ev (l : List Int) (hl : l.length ≤ 1000) (hb : ∀ x ∈ l, -1000000000 ≤ x ∧ x ≤ 1000000000) : Ev (fun k => spec_l1Total.f k l) (tot l) := by
  unfold spec_l1Total.f
  exact l1Total_loop l hl 1000000000 (by omega) (by omega) hb l.length 0 (by omega)

theorem implSum_loop (l : List Int) (hl : l.length ≤ 1000) (B : Int) (hB : 0 ≤ B) (hB2 : B ≤ 1000000000) (hb : ∀ x ∈ l, -B ≤ x ∧ x ≤ B) (d : Nat) : ∀ i : Nat, i + d = l.length → Ev (fun k => impl_sum.l0 k (tot (l.take i)) l (l.length : Int) (i : Int)) (tot l) := by
  induction d with
  | zero =>
    intro i hi
    refine Ev.step (fun _ => rfl) ?_
    refine ev_neg (by omega) (ev_eq (Ev.now _) ?_)
    rw [List.take_of_length_le (by omega)]
  | succ d ih =>
    intro i hi
    refine Ev.step (fun _ => rfl) ?_
    refine ev_pos (by omega) (ev_pos (by omega) (ev_pos (by omega) ?_))
    have h1 := tot_abs (l.take i) B hB (fun x hx => hb x (List.mem_of_mem_take hx))
    have h2 := hb _ (rd_mem l i (by omega))
    have h3 : ((l.take i).length : Int) * B ≤ 1000 * 1000000000 := (mulb (by omega) (by rw [List.length_take]; omega) hB hB2).2
    have h4 : tot (l.take i) + rd l (i : Int) = tot (l.take (i + 1)) := by rw [take_rd l i (by omega), tot_append]; simp [tot]
    rw [w64n i (by omega), w64 (by omega) (by omega), h4]
    exact ih (i + 1) (by omega)
theorem implSum_ev (l : List Int) (hl : l.length ≤ 1000) (hb : ∀ x ∈ l, -1000000000 ≤ x ∧ x ≤ 1000000000) : Ev (fun k => impl_sum.f k l) (tot l) := by
  unfold impl_sum.f
  exact implSum_loop l hl 1000000000 (by omega) (by omega) hb l.length 0 (by omega)

theorem implTotalOf_ev (l : List Int) (hl : l.length ≤ 1000000000) : Ev (fun k => impl_TotalOf.f k l) (if urnB l = true then tot l else -1) := by
  unfold impl_TotalOf.f
  refine Ev.bind (implUrnOk_ev l hl) ?_
  by_cases h : urnB l = true
  · rw [if_pos h]
    obtain ⟨h1, h2, h3⟩ := urnB_bounds h
    exact ev_pos h (Ev.bind (implSum_ev l (by omega) (fun x hx => by have := h1 x hx; omega)) (Ev.now _))
  · rw [if_neg h]
    exact ev_neg h (Ev.now _)

theorem l1Common_ev (b : Nat) : ∀ a : Nat, Ev (fun k => spec_l1Common.l0 k (a : Int) (b : Int)) (mx (Nat.gcd a b : Int) 1) := by
  induction b using Nat.strongRecOn with
  | ind b ih =>
    intro a
    refine Ev.step (fun _ => rfl) ?_
    by_cases hb : b = 0
    · subst hb
      exact ev_neg (by omega) (ev_eq (Ev.now _) (by simp))
    · refine ev_pos (by omega) (ev_neg (by omega) ?_)
      have h1 : Int.tmod (a : Int) (b : Int) = ((a % b : Nat) : Int) := by rw [Int.tmod_eq_emod_of_nonneg (by omega)]; simp
      rw [h1]
      have := ih (a % b) (Nat.mod_lt _ (by omega)) b
      rw [show Nat.gcd b (a % b) = Nat.gcd a b from by rw [Nat.gcd_comm a b, Nat.gcd_rec b a, Nat.gcd_comm (a % b) b]] at this
      exact this

theorem implFraction_loop (x y : Nat) (hx : x ≤ 1000000) (hy : y ≤ 1000000) (b : Nat) : ∀ a : Nat, 0 < a + b → Ev (fun k => impl_fraction.l0 k (x : Int) (y : Int) (a : Int) (b : Int)) ((x : Int) / (Nat.gcd a b : Int), (y : Int) / (Nat.gcd a b : Int), true) := by
  induction b using Nat.strongRecOn with
  | ind b ih =>
    intro a hab
    refine Ev.step (fun _ => rfl) ?_
    by_cases hb : b = 0
    · subst hb
      refine ev_pos (by omega) (ev_neg (by omega) (ev_eq (Ev.now _) ?_))
      have h1 := tdiv_range (x : Int) (a : Int) (by omega) (by omega)
      have h2 := tdiv_range (y : Int) (a : Int) (by omega) (by omega)
      rw [w64 (by omega) (by omega), w64 (by omega) (by omega), Int.tdiv_eq_ediv_of_nonneg (by omega), Int.tdiv_eq_ediv_of_nonneg (by omega), Nat.gcd_zero_right]
    · refine ev_neg (by omega) ?_
      have h1 : Int.tmod (a : Int) (b : Int) = ((a % b : Nat) : Int) := by rw [Int.tmod_eq_emod_of_nonneg (by omega)]; simp
      rw [h1]
      have := ih (a % b) (Nat.mod_lt _ (by omega)) b (by omega)
      rw [show Nat.gcd b (a % b) = Nat.gcd a b from by rw [Nat.gcd_comm a b, Nat.gcd_rec b a, Nat.gcd_comm (a % b) b]] at this
      exact this

theorem chance_no (l : List Int) (c : Int) : Ev (fun k => spec_ChanceOf.j0 k l c true) (0, 0, false) := Ev.step (fun _ => rfl) (Ev.now _)
theorem specChanceOf_ev (l : List Int) (c : Int) (hl : l.length ≤ 1000000000) : Ev (fun k => spec_ChanceOf.f k l c) (chanceP l c) := by
  unfold spec_ChanceOf.f chanceP
  refine Ev.bind (specUrnOk_ev l hl) ?_
  by_cases h : urnB l = true
  · obtain ⟨h1, h2, h3⟩ := urnB_bounds h
    have ht := tot_bound l 40 (by omega) h1
    refine ev_pos h ?_
    rw [l1In_f, w64 (by omega) (by omega)]
    by_cases h4 : 0 ≤ c ∧ c < l.length
    · rw [show inB c 0 ((l.length : Int) - 1) = true from by simp [inB]; omega]
      have hev := l1Total_ev l (by omega) (fun x hx => by have := h1 x hx; omega)
      refine Ev.bind (Ev.now _) (ev_pos rfl (Ev.bind hev ?_))
      by_cases h5 : tot l = 0
      · rw [h5, if_neg (by omega)]; exact chance_no l c
      · rw [if_pos ⟨h, h4.1, h4.2, by omega⟩, show (tot l == 0) = false from by simp [h5]]
        refine Ev.step (fun _ => rfl) ?_
        refine ev_pos h4.1 (ev_pos h4.2 (Ev.bind hev ?_))
        have hr := h1 _ (rd_range l c h4.1 h4.2)
        obtain ⟨a, ha⟩ := Int.eq_ofNat_of_zero_le hr.1
        obtain ⟨b, hb⟩ := Int.eq_ofNat_of_zero_le ht.1
        have hc := l1Common_ev b a
        have hg : 0 < Nat.gcd a b := Nat.gcd_pos_of_pos_right _ (by omega)
        rw [ha, hb]
        refine Ev.bind (g := fun k => spec_l1Common.f k (a : Int) (b : Int)) hc ?_
        rw [mx_l _ _ (by omega)]
        refine ev_neg (by omega) ?_
        rw [hb] at hev
        refine Ev.bind hev (ev_eq (Ev.now _) ?_)
        have t1 := tdiv_range (a : Int) (Nat.gcd a b : Int) (by omega) (by omega)
        have t2 := tdiv_range (b : Int) (Nat.gcd a b : Int) (by omega) (by omega)
        rw [w64 (by omega) (by omega), w64 (by omega) (by omega), Int.tdiv_eq_ediv_of_nonneg (by omega), Int.tdiv_eq_ediv_of_nonneg (by omega)]
        simp
    · rw [show inB c 0 ((l.length : Int) - 1) = false from by simp [inB]; omega, if_neg (by omega)]
      exact chance_no l c
  · refine ev_neg h ?_
    rw [if_neg (fun hh => h hh.1)]; exact chance_no l c

theorem chance_noI (l : List Int) (c : Int) : Ev (fun k => impl_ChanceOf.j0 k l c true) (0, 0, false) := Ev.step (fun _ => rfl) (Ev.now _)
theorem implChanceOf_ev (l : List Int) (c : Int) (hl : l.length ≤ 1000000000) : Ev (fun k => impl_ChanceOf.f k l c) (chanceP l c) := by
  unfold impl_ChanceOf.f chanceP
  refine Ev.bind (implUrnOk_ev l hl) ?_
  by_cases h : urnB l = true
  · obtain ⟨h1, h2, h3⟩ := urnB_bounds h
    have ht := tot_bound l 40 (by omega) h1
    refine ev_pos h ?_
    by_cases h6 : c < 0
    · refine ev_pos h6 ?_
      rw [if_neg (by omega)]; exact chance_noI l c
    refine ev_neg h6 ?_
    by_cases h7 : c ≥ (l.length : Int)
    · refine ev_pos h7 ?_
      rw [if_neg (by omega)]; exact chance_noI l c
    refine ev_neg h7 ?_
    have h4 : 0 ≤ c ∧ c < l.length := by omega
    have hev := implSum_ev l (by omega) (fun x hx => by have := h1 x hx; omega)
    refine Ev.bind hev ?_
    by_cases h5 : tot l = 0
    · rw [h5, if_neg (by omega)]; exact chance_noI l c
    · rw [if_pos ⟨h, h4.1, h4.2, by omega⟩, show (tot l == 0) = false from by simp [h5]]
      refine Ev.step (fun _ => rfl) ?_
      refine ev_pos h4.1 (ev_pos h4.2 (Ev.bind hev ?_))
      have hr := h1 _ (rd_range l c h4.1 h4.2)
      obtain ⟨a, ha⟩ := Int.eq_ofNat_of_zero_le hr.1
      obtain ⟨b, hb⟩ := Int.eq_ofNat_of_zero_le ht.1
      rw [ha, hb]
      refine Ev.bind (g := fun k => impl_fraction.f k (a : Int) (b : Int)) (implFraction_loop a b (by omega) (by omega) b a (by omega)) (ev_eq (Ev.now _) ?_)
      simp
  · refine ev_neg h ?_
    rw [if_neg (fun hh => h hh.1)]; exact chance_noI l c

theorem l20Open_f (l : List Int) (hb : ∀ x ∈ l, (Lit.int .u8 x).wf = true) : ∃ b, spec_l20Open.f l = some (b, 0) ∧ OkB b := by
  unfold spec_l20Open.f
  by_cases h : (l.length : Int) > 2000
  · rw [if_pos h, if_pos (by omega)]
    exact ⟨_, rfl, fun x hx => u8_wf (hb x (List.mem_of_mem_take hx)), by rw [List.length_take]; omega⟩
  · rw [if_neg h]
    exact ⟨_, rfl, fun x hx => u8_wf (hb x hx), by omega⟩

theorem pick_ev {b : List Int} (hb : OkB b) {p : Int} (hp0 : 0 ≤ p) (hp : p ≤ 1000000) (n : Int) (hn0 : 1 ≤ n) (hn : n ≤ 1000000) : ∃ v, Ev (fun k => spec_l20Rd_pick.f k b p n) (v, p + 1) ∧ 0 ≤ v ∧ v < n := by
  obtain ⟨hb1, hb2⟩ := hb
  unfold spec_l20Rd_pick.f
  have e1 : wrap64 (p + 1) = p + 1 := w64 (by omega) (by omega)
  by_cases h0 : b.length = 0
  · refine ⟨0, ev_neg (by omega) ?_, by omega, by omega⟩
    rw [show ((b.length : Int) == 0) = true from by simp [h0], e1]
    exact Ev.step (fun _ => rfl) (Ev.now _)
  · have hz : ((b.length : Int) == 0) = false := by simp; intro hh; exact h0 (by simp [hh])
    have hat : ∀ i : Int, 0 ≤ i → i < b.length → 0 ≤ rd b i ∧ rd b i ≤ 255 := fun i h1 h2 => hb1 _ (rd_range b i h1 h2)
    have e2 : wrap64 (p + 1 - 1) = p := by rw [show p + 1 - 1 = p by omega]; exact w64 (by omega) (by omega)
    by_cases h1 : p < (b.length : Int)
    · have hr := hat p hp0 h1
      have ht := tmod_range (rd b p) n hr.1 (by omega)
      refine ⟨Int.tmod (rd b p) n, ev_neg (by omega) ?_, ht.1, ht.2⟩
      rw [hz, e1]
      refine Ev.step (fun _ => by rw [spec_l20Rd_pick.j0]) (ev_neg (by simp) ?_)
      rw [e2, w64 (x := rd b p) (by omega) (by omega)]
      exact ev_pos h1 (ev_pos hp0 (ev_neg (by omega) (Ev.now _)))
    · have m1 := tmod_range p (b.length : Int) hp0 (by omega)
      have e3 : wrap64 (p * 7) = p * 7 := w64 (by omega) (by omega)
      have e4 : wrap64 (p * 7 + 3) = p * 7 + 3 := w64 (by omega) (by omega)
      have m2 := tmod_range (p * 7 + 3) (b.length : Int) (by omega) (by omega)
      have r1 := hat _ m1.1 m1.2
      have r2 := hat _ m2.1 m2.2
      have d1 := tdiv_range p (b.length : Int) hp0 (by omega)
      have key : ∀ x y z : Int, 0 ≤ x → x ≤ 255 → 0 ≤ y → y ≤ 255 → 0 ≤ z → z ≤ 1000000 →
          wrap64 (wrap64 (wrap64 (wrap64 (wrap64 x * 131) + wrap64 (wrap64 y * 1117)) + wrap64 (p * 29)) + wrap64 (wrap64 z * 53)) = x * 131 + y * 1117 + p * 29 + z * 53 := by
        intro x y z _ _ _ _ _ _
        rw [w64 (x := x) (by omega) (by omega), w64 (x := y) (by omega) (by omega), w64 (x := z) (by omega) (by omega), w64 (x := x * 131) (by omega) (by omega), w64 (x := y * 1117) (by omega) (by omega), w64 (x := p * 29) (by omega) (by omega), w64 (x := z * 53) (by omega) (by omega),
          w64 (x := x * 131 + y * 1117) (by omega) (by omega), w64 (x := x * 131 + y * 1117 + p * 29) (by omega) (by omega), w64 (by omega) (by omega)]
      obtain ⟨X, hX, hX0, hX1⟩ : ∃ X, wrap64 (wrap64 (wrap64 (wrap64 (wrap64 (rd b (Int.tmod p b.length)) * 131) + wrap64 (wrap64 (rd b (Int.tmod (p * 7 + 3) b.length)) * 1117)) + wrap64 (p * 29)) + wrap64 (wrap64 (Int.tdiv p b.length) * 53)) = X ∧ 0 ≤ X ∧ X ≤ 100000000 :=
        ⟨_, key _ _ _ r1.1 r1.2 r2.1 r2.2 d1.1 (by omega), by omega, by omega⟩
      have d2 := tdiv_range X 64 hX0 (by omega)
      have hx := xor_nonneg X (Int.tdiv X 64) hX0 (by omega) d2.1 (by omega)
      have ht := tmod_range _ n hx (by omega)
      refine ⟨Int.tmod (Go.bits .xor .i64 X (Int.tdiv X 64)) n, ev_neg (by omega) ?_, ht.1, ht.2⟩
      rw [hz, e1]
      refine Ev.step (fun _ => by rw [spec_l20Rd_pick.j0]) (ev_neg (by simp) ?_)
      rw [e2, e3, e4, hX, w64 (x := Int.tdiv X 64) (by omega) (by omega)]
      exact ev_neg h1 (ev_neg (by omega) (ev_pos m1.1 (ev_pos m1.2 (ev_pos m2.1 (ev_pos m2.2 (ev_neg (by omega) (Ev.now _)))))))

theorem odd_ev {b : List Int} (hb : OkB b) {p : Int} (hp0 : 0 ≤ p) (hp : p ≤ 1000000) (n : Int) (hn0 : 1 ≤ n) (hn : n ≤ 1000000) : ∃ v, Ev (fun k => spec_l20Rd_odd.f k b p n) (v, p + 1) := by
  obtain ⟨v, hv, _, _⟩ := pick_ev hb hp0 hp n hn0 hn
  unfold spec_l20Rd_odd.f
  exact ⟨_, ev_pos (by omega) (Ev.bind hv (Ev.now _))⟩

theorem l20Urn_loop {b : List Int} (hb : OkB b) (n : Int) (hn0 : 1 ≤ n) (hn : n ≤ 1000000) (d : Nat) : ∀ (l : List Int) (p : Int), 0 ≤ p → p + d ≤ 900000 → d ≤ 3 → 1 ≤ l.length + d → l.length + d ≤ 3 → (∀ x ∈ l, 0 ≤ x ∧ x ≤ 5) →
    ∃ u p', Ev (fun k => spec_l20Urn.l0 k n l (d : Int) b p) (u, p') ∧ p ≤ p' ∧ p' ≤ p + d + 5 ∧ u.length ≤ 4 ∧ ∀ x ∈ u, -1 ≤ x ∧ x ≤ 41 := by
  induction d with
  | zero =>
    intro l p hp0 hp _ hl1 hl2 hx
    obtain ⟨v, hv⟩ := odd_ev hb hp0 (by omega) n hn0 hn
    cases v with
    | false =>
      exact ⟨l, p + 1, Ev.step (fun _ => rfl) (ev_neg (by omega) (Ev.bind hv (Ev.now _))), by omega, by omega, by omega, fun x h => by have := hx x h; omega⟩
    | true =>
      obtain ⟨w, hw, hw0, hw1⟩ := pick_ev hb (p := p + 1) (by omega) (by omega) 3 (by omega) (by omega)
      by_cases h0 : w = 0
      · exact ⟨[], p + 1 + 1, Ev.step (fun _ => rfl) (ev_neg (by omega) (Ev.bind hv (Ev.bind hw (ev_pos h0 (Ev.now _))))), by omega, by omega, by simp, fun x h => by simp at h⟩
      · by_cases h1 : w = 1
        · obtain ⟨y, hy, hy0, hy1⟩ := pick_ev hb (p := p + 1 + 1) (by omega) (by omega) 2 (by omega) (by omega)
          refine ⟨l.set 0 (rd [-1, 41] y), p + 1 + 1 + 1, Ev.step (fun _ => rfl) (ev_neg (by omega) (Ev.bind hv (Ev.bind hw (ev_neg h0 (ev_pos h1 (Ev.bind (Ev.now _) (Ev.bind hy (ev_pos hy0 (ev_pos (by simpa using hy1) (ev_pos (by omega) (Ev.now _))))))))))), by omega, by omega, by rw [List.length_set]; omega, ?_⟩
          intro x h
          rcases List.mem_or_eq_of_mem_set h with h | rfl
          · have := hx x h; omega
          · have : y = 0 ∨ y = 1 := by omega
            rcases this with rfl | rfl <;> simp [rd]
        · exact ⟨[1, 1, 1, 1], p + 1 + 1, Ev.step (fun _ => rfl) (ev_neg (by omega) (Ev.bind hv (Ev.bind hw (ev_neg h0 (ev_neg h1 (Ev.now _)))))), by omega, by omega, by simp, fun x h => by simp at h; omega⟩
  | succ d ih =>
    intro l p hp0 hp hd hl1 hl2 hx
    obtain ⟨v, hv, hv0, hv1⟩ := pick_ev hb hp0 (by omega) 6 (by omega) (by omega)
    obtain ⟨u, p', hu, h1, h2, h3, h4⟩ := ih (l ++ [v]) (p + 1) (by omega) (by omega) (by omega) (by simp; omega) (by simp; omega) (fun x h => by
      rcases List.mem_append.1 h with h | h
      · exact hx x h
      · have : x = v := by simpa using h
        omega)
    refine ⟨u, p', Ev.step (fun _ => rfl) (ev_pos (by omega) (Ev.bind hv (ev_pos (by omega) ?_))), by omega, by omega, h3, h4⟩
    rw [w64 (by omega) (by omega), show ((d + 1 : Nat) : Int) - 1 = (d : Int) from by omega]
    exact hu
theorem l20Urn_ev {b : List Int} (hb : OkB b) {p : Int} (hp0 : 0 ≤ p) (hp : p ≤ 800000) (n : Int) (hn0 : 1 ≤ n) (hn : n ≤ 1000000) :
    ∃ u p', Ev (fun k => spec_l20Urn.f k b p n) (u, p') ∧ p ≤ p' ∧ p' ≤ p + 11 ∧ u.length ≤ 4 ∧ ∀ x ∈ u, -1 ≤ x ∧ x ≤ 41 := by
  obtain ⟨v, hv, hv0, hv1⟩ := pick_ev hb hp0 (by omega) 3 (by omega) (by omega)
  obtain ⟨m, rfl⟩ := Int.eq_ofNat_of_zero_le hv0
  obtain ⟨u, p', hu, h1, h2, h3, h4⟩ := l20Urn_loop hb n hn0 hn (1 + m) [] (p + 1) (by omega) (by omega) (by omega) (by simp) (by simp; omega) (by simp)
  refine ⟨u, p', ?_, by omega, by omega, h3, h4⟩
  unfold spec_l20Urn.f
  refine Ev.bind hv ?_
  rw [w64 (by omega) (by omega), show (1 : Int) + (m : Int) = ((1 + m : Nat) : Int) from by omega]
  exact hu

theorem alive_ev : Ev (fun k => laws_alive.f k) true := by
  unfold laws_alive.f
  exact Ev.bind (implUrnOk_ev [1] (by simp)) (ev_pos (by decide) (Ev.bind (implUrnOk_ev [] (by simp)) (Ev.now _)))

theorem Clone_f (l : List Int) (hl : l.length ≤ 1000000000) : slices_Clone_int_int.f l = some l := by
  unfold slices_Clone_int_int.f
  simp only [Option.bind_some]
  rw [if_pos (by simp; omega)]; rfl

theorem implAdded_set (a b : List Int) (h : b.length = a.length) (i : Nat) (hi : i < b.length) : ((addL a b).take i ++ a.drop i).set i (rd ((addL a b).take i ++ a.drop i) (i : Int) + rd b (i : Int)) = (addL a b).take (i + 1) ++ a.drop (i + 1) := by
  have hl := addL_length a b h
  have e1 : ((addL a b).take i).length = i := by rw [List.length_take]; omega
  have e2 : rd ((addL a b).take i ++ a.drop i) (i : Int) = rd a (i : Int) := by
    rw [rd_nat _ i (by rw [List.length_append, e1, List.length_drop]; omega), rd_nat a i (by omega), List.getElem_append_right (by omega)]
    simp only [e1, Nat.sub_self, List.getElem_drop, Nat.add_zero]
  rw [e2, List.set_append_right _ _ (by omega), e1, Nat.sub_self, drop_rd a i (by omega), List.set_cons_zero, take_rd (addL a b) i (by omega), addL_rd a b i (by omega) h, List.append_assoc]
  rfl
theorem implAdded_loop (a b : List Int) (h : b.length = a.length) (hl : b.length ≤ 1000) (hb : ∀ i : Nat, i < b.length → -1000000 ≤ rd a i + rd b i ∧ rd a i + rd b i ≤ 1000000) (d : Nat) : ∀ i : Nat, i + d = b.length → Ev (fun k => impl_added.l0 k ((addL a b).take i ++ a.drop i) b (b.length : Int) (i : Int)) (addL a b) := by
  have hla := addL_length a b h
  induction d with
  | zero =>
    intro i hi
    refine Ev.step (fun _ => rfl) ?_
    refine ev_neg (by omega) (ev_eq (Ev.now _) ?_)
    rw [List.take_of_length_le (by omega), List.drop_eq_nil_of_le (by omega), List.append_nil]
  | succ d ih =>
    intro i hi
    refine Ev.step (fun _ => rfl) ?_
    refine ev_pos (by omega) (ev_pos (by omega) (ev_pos (by omega) (ev_pos (by rw [List.length_append, List.length_take, List.length_drop]; omega) ?_)))
    have e1 : ((addL a b).take i).length = i := by rw [List.length_take]; omega
    have e2 : rd ((addL a b).take i ++ a.drop i) (i : Int) = rd a (i : Int) := by
      rw [rd_nat _ i (by rw [List.length_append, e1, List.length_drop]; omega), rd_nat a i (by omega), List.getElem_append_right (by omega)]
      simp only [e1, Nat.sub_self, List.getElem_drop, Nat.add_zero]
    have hbi := hb i (by omega)
    rw [w64n i (by omega), w64 (by rw [e2]; omega) (by rw [e2]; omega), show ((i : Int)).toNat = i from by simp, implAdded_set a b h i (by omega)]
    exact ih (i + 1) (by omega)
theorem implAdded_ev (a b : List Int) (h : b.length = a.length) (hl : b.length ≤ 1000) (hb : ∀ i : Nat, i < b.length → -1000000 ≤ rd a i + rd b i ∧ rd a i + rd b i ≤ 1000000) : Ev (fun k => impl_added.f k a b) (addL a b) := by
  unfold impl_added.f
  rw [Clone_f a (by omega)]
  refine Ev.bind (Ev.now _) ?_
  have := implAdded_loop a b h hl hb b.length 0 (by omega)
  simpa using this

theorem implPouredUrn_ev (a b : List Int) (ha : a.length ≤ 1000000000) (hb : b.length ≤ 1000000000) : Ev (fun k => impl_PouredUrn.f k a b) (pourP a b) := by
  have no : Ev (fun k => impl_PouredUrn.j0 k a b true) ([], false) := Ev.step (fun _ => rfl) (Ev.now _)
  unfold impl_PouredUrn.f pourP
  refine Ev.bind (implUrnOk_ev a ha) ?_
  by_cases h : urnB a = true
  · refine ev_pos h (Ev.bind (implUrnOk_ev b hb) ?_)
    by_cases h2 : urnB b = true
    · refine ev_pos h2 ?_
      obtain ⟨a1, a2, a3⟩ := urnB_bounds h
      obtain ⟨b1, b2, b3⟩ := urnB_bounds h2
      by_cases h3 : a.length = b.length
      · rw [show ((a.length : Int) != (b.length : Int)) = false from by simp [h3]]
        refine Ev.step (fun _ => by rw [impl_PouredUrn.j0]) ?_
        refine ev_neg (by simp) ?_
        refine Ev.bind (implAdded_ev a b h3.symm (by omega) (fun i hi => ?_)) ?_
        · have e1 := a1 _ (rd_mem a i (by omega)); have e2 := b1 _ (rd_mem b i hi)
          omega
        · refine Ev.bind (implUrnOk_ev _ (by rw [addL_length a b h3.symm]; omega)) ?_
          by_cases h6 : urnB (addL a b) = true
          · refine ev_pos h6 ?_; rw [if_pos ⟨⟨h, h2, h3⟩, h6⟩]; exact Ev.now _
          · refine ev_neg h6 ?_; rw [if_neg (fun hh => h6 hh.2)]; exact Ev.now _
      · rw [show ((a.length : Int) != (b.length : Int)) = true from by simp; omega, if_neg (fun hh => h3 hh.1.2.2)]
        exact no
    · refine ev_neg h2 ?_
      rw [if_neg (fun hh => h2 hh.1.2.1)]; exact no
  · refine ev_neg h ?_
    rw [if_neg (fun hh => h hh.1.1)]; exact no

theorem pickAny_ev {b : List Int} (hb : OkB b) {p : Int} (hp0 : 0 ≤ p) (hp : p ≤ 1000000) (n : Int) (hn0 : 0 ≤ n) (hn : n ≤ 1000000) : ∃ v, Ev (fun k => spec_l20Rd_pick.f k b p n) (v, p + 1) ∧ 0 ≤ v ∧ v ≤ 1000000 := by
  by_cases h : 1 ≤ n
  · obtain ⟨v, h1, h2, h3⟩ := pick_ev hb hp0 hp n h hn
    exact ⟨v, h1, h2, by omega⟩
  · refine ⟨0, ?_, by omega, by omega⟩
    unfold spec_l20Rd_pick.f
    rw [w64 (by omega) (by omega)]
    exact ev_pos (by omega) (Ev.step (fun _ => rfl) (Ev.now _))

theorem DrawChanceOf_ev (l : List Int) (hb : ∀ x ∈ l, (Lit.int .u8 x).wf = true) : ∃ u c, Ev (fun k => spec_DrawChanceOf.f k l) (u, c) ∧ u.length ≤ 4 := by
  obtain ⟨b, hf, hk⟩ := l20Open_f l hb
  obtain ⟨u, p, hu, h1, h2, h3, _⟩ := l20Urn_ev hk (p := 0) (by omega) (by omega) 12 (by omega) (by omega)
  obtain ⟨v1, e1, _⟩ := pickAny_ev hk (p := p) (by omega) (by omega) (u.length : Int) (by omega) (by omega)
  obtain ⟨v2, e2, _⟩ := pick_ev hk (p := p + 1) (by omega) (by omega) 30 (by omega) (by omega)
  obtain ⟨v3, e3, _⟩ := pick_ev hk (p := p + 1 + 1) (by omega) (by omega) 40 (by omega) (by omega)
  exact ⟨u, _, by
    unfold spec_DrawChanceOf.f
    rw [hf]
    exact Ev.bind (Ev.now _) (Ev.bind hu (Ev.bind e1 (Ev.bind e2 (Ev.bind e3 (Ev.now _))))), h3⟩

theorem chance_twice (u : List Int) (c : Int) (hu : urnB u = true) (h0 : 0 ≤ c) (h1 : c < u.length) (ht : 0 < tot u) (h2 : urnB (addL u u) = true) : chanceP (addL u u) c = chanceP u c := by
  obtain ⟨m, rfl⟩ := Int.eq_ofNat_of_zero_le h0
  obtain ⟨b1, b2, b3⟩ := urnB_bounds hu
  have hr := b1 _ (rd_range u (m : Int) h0 h1)
  have e1 : rd (addL u u) (m : Int) = 2 * rd u (m : Int) := by rw [addL_rd u u m (by omega) rfl]; omega
  have e2 : tot (addL u u) = 2 * tot u := by rw [tot_addL u u rfl]; omega
  unfold chanceP
  rw [if_pos ⟨h2, h0, by rw [addL_length u u rfl]; exact h1, by omega⟩, if_pos ⟨hu, h0, h1, ht⟩, e1, e2]
  have e3 : Nat.gcd (2 * rd u (m : Int)).toNat (2 * tot u).toNat = 2 * Nat.gcd (rd u (m : Int)).toNat (tot u).toNat := by
    rw [show (2 * rd u (m : Int)).toNat = 2 * (rd u (m : Int)).toNat by omega, show (2 * tot u).toNat = 2 * (tot u).toNat by omega, Nat.gcd_mul_left]
  rw [e3]
  rw [Int.natCast_mul]
  have k : ∀ x y : Int, 2 * x / (((2 : Nat) : Int) * y) = x / y := fun x y => Int.mul_ediv_mul_of_pos x y (show (0 : Int) < ((2 : Nat) : Int) by omega)
  rw [k, k]
theorem FnChanceOf_loop (u : List Int) (hu : urnB u = true) (ht : 0 < tot u) (c n d : Int) (hc0 : 0 ≤ c) (hc1 : c < u.length) (hnd : n ≤ d) (hch : chanceP u c = (n, d, true)) (e : Nat) : ∀ i : Nat, i + e = u.length →
    Ev (fun k => laws_FnChanceOf.l0 k u c n d (tot u) (tot (u.take i)) (i : Int)) true := by
  obtain ⟨b1, b2, b3⟩ := urnB_bounds hu
  have hb := tot_bound u 40 (by omega) b1
  induction e with
  | zero =>
    intro i hi
    refine Ev.step (fun _ => rfl) ?_
    rw [List.take_of_length_le (by omega)]
    refine ev_neg (by omega) (Ev.bind (implPouredUrn_ev u u (by omega) (by omega)) ?_)
    by_cases h2 : urnB (addL u u) = true
    · have e0 : pourP u u = (addL u u, true) := by unfold pourP; rw [if_pos ⟨⟨hu, hu, rfl⟩, h2⟩]
      rw [e0]
      have hi2 := implChanceOf_ev (addL u u) c (by rw [addL_length u u rfl]; omega)
      rw [chance_twice u c hu hc0 hc1 ht h2, hch] at hi2
      exact Ev.bind hi2 (ev_pos rfl (ev_pos hnd (ev_pos rfl (ev_pos rfl (ev_pos rfl (ev_eq (Ev.now _) (by simp)))))))
    · have e0 : pourP u u = ([], false) := by unfold pourP; rw [if_neg (fun hh => h2 hh.2)]
      rw [e0]
      exact Ev.bind (implChanceOf_ev [] c (by simp)) (ev_pos rfl (ev_pos hnd (ev_neg (by simp) (Ev.now _))))
  | succ e ih =>
    intro i hi
    refine Ev.step (fun _ => rfl) ?_
    obtain ⟨p, q, g, c1, p0, p1, q0, q1, g0, x1, y1⟩ := chanceP_true (l := u) (c := (i : Int)) ⟨hu, by omega, by omega, ht⟩
    have hci := implChanceOf_ev u (i : Int) (by omega)
    rw [c1] at hci
    have hr := b1 _ (rd_mem u i (by omega))
    have m1 := mulb p0 p1 hb.1 (show tot u ≤ 120 by omega)
    have m2 := mulb hr.1 hr.2 (show 0 ≤ q by omega) q1
    have h3 := tot_bound (u.take i) 40 (by omega) (fun x hx => b1 x (List.mem_of_mem_take hx))
    have h4 : ((u.take i).length : Int) ≤ 3 := by rw [List.length_take]; omega
    have e1 : p * tot u = rd u (i : Int) * q := by rw [x1, y1, Int.mul_comm q g, Int.mul_assoc]
    have e2 : Int.tdiv (p * tot u) q = rd u (i : Int) := by rw [e1]; exact Int.mul_tdiv_cancel _ (by omega)
    have h5 : tot (u.take i) + rd u (i : Int) = tot (u.take (i + 1)) := by rw [take_rd u i (by omega), tot_append]; simp [tot]
    refine ev_pos (by omega) (Ev.bind hci (ev_pos rfl (ev_neg (by simp only; omega) (ev_pos (by omega) ?_))))
    simp only
    rw [w64 (x := p * tot u) (by omega) (by omega), w64 (x := rd u (i : Int) * q) (by omega) (by omega), e2, w64 (x := rd u (i : Int)) (by omega) (by omega), w64 (by omega) (by omega), h5, w64n i (by omega)]
    exact ev_pos e1 (ev_neg (by omega) (ih (i + 1) (by omega)))
theorem FnChanceOf : laws_FnChanceOf.Pure := by
  intro l hl0 _ hb
  refine Ev.rounds (g := fun k => laws_FnChanceOf.f k l) ?_
  unfold laws_FnChanceOf.f
  by_cases h : (l.length : Int) > 1048576
  · exact ev_pos h (Ev.now _)
  refine ev_neg h ?_
  obtain ⟨u, c, hd, hl⟩ := DrawChanceOf_ev l hb
  refine Ev.bind hd (Ev.bind (implChanceOf_ev u c (by omega)) (Ev.bind (specChanceOf_ev u c (by omega)) (ev_pos rfl (ev_pos rfl ?_))))
  refine Ev.step (fun _ => by rw [laws_FnChanceOf.j0]) ?_
  refine ev_neg (by simp) ?_
  by_cases hc : urnB u = true ∧ 0 ≤ c ∧ c < u.length ∧ 0 < tot u
  · obtain ⟨p, q, g, c1, p0, p1, q0, q1, g0, x1, y1⟩ := chanceP_true hc
    rw [c1]
    have t1 := implTotalOf_ev u (by omega)
    rw [if_pos hc.1] at t1
    have hle : rd u c ≤ tot u := tot_le_of_mem u (fun x hx => ((urnB_bounds hc.1).1 x hx).1) _ (rd_range u c hc.2.1 hc.2.2.1)
    have hpq : p ≤ q := by rw [x1, y1] at hle; exact Int.le_of_mul_le_mul_right hle (by omega)
    exact ev_pos rfl (Ev.bind t1 (FnChanceOf_loop u hc.1 hc.2.2.2 c p q hc.2.1 hc.2.2.1 hpq c1 u.length 0 (by omega)))
  · have e : chanceP u c = (0, 0, false) := by unfold chanceP; rw [if_neg hc]
    rw [e]
    exact ev_neg (by simp) (ev_pos rfl (ev_pos rfl (Ev.bind alive_ev (Ev.now _))))

end Go.Proofs.Ytlakokejoifamaa.Pure
