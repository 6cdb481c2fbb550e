/- The law FnWordsWith: for every input the printed function of the law answers true. No condition. -/
import Derived.Test.YtdplpbhbacbcmaaPFnWordsWithx3
import Derived.Test.YtdplpbhbacbcmaaPlain
import Derived.Test.YtdplpbhbacbcmaaPlainE
set_option linter.unusedVariables false
set_option linter.unusedSimpArgs false
namespace Go.Proofs.Ytdplpbhbacbcmaa.Pure
open Go.RowKit Go.Proofs.Ytdplpbhbacbcmaa.PFnWordsWith Go.Proofs.YtdplpbhbacbcmaaW.PrintWords Go.Proofs.YtdplpbhbacbcmaaW.PrintLast Go.Proofs.YtdplpbhbacbcmaaW.PrintMore Go.Proofs.Ytdplpbhbacbcmaa.Plain

theorem l1In_f (x a b : Int) : spec_l1In.f x a b = some (inB x a b) := by
  unfold spec_l1In.f inB
  by_cases h : x ≥ a
  · rw [if_pos h]; congr 1; simp [h]
  · rw [if_neg h]; congr 1; simp; omega

theorem coloursOk_f (x : Int) : impl_coloursOk.f x = some (colB x) := by
  unfold impl_coloursOk.f colB
  by_cases h : x ≥ 1
  · rw [if_pos h]; congr 1; simp [h]
  · rw [if_neg h]; congr 1; simp; omega

theorem implUrnOk_loop (l : List Int) (hl : l.length ≤ 1000000000) (d : Nat) : ∀ i : Nat, i + d = l.length → Ev (fun k => impl_UrnOk.l0 k l l (l.length : Int) (i : Int)) ((l.drop i).all urnE && colB l.length) := by
  induction d with
  | zero =>
    intro i hi
    refine Ev.step (fun _ => rfl) ?_
    refine ev_neg (by omega) ?_
    rw [coloursOk_f, List.drop_eq_nil_of_le (by omega)]
    exact Ev.now _
  | succ d ih =>
    intro i hi
    refine Ev.step (fun _ => rfl) ?_
    refine ev_pos (by omega) (ev_pos (by omega) (ev_pos (by omega) ?_))
    rw [drop_rd l i (by omega), List.all_cons]
    by_cases h1 : rd l (i : Int) < 0
    · refine ev_pos h1 (ev_eq (Ev.now _) ?_)
      rw [show urnE (rd l (i : Int)) = false from by simp [urnE]; omega]; rfl
    · refine ev_neg h1 ?_
      by_cases h2 : rd l (i : Int) > 40
      · refine ev_pos h2 (ev_eq (Ev.now _) ?_)
        rw [show urnE (rd l (i : Int)) = false from by simp [urnE]; omega]; rfl
      · refine ev_neg h2 ?_
        rw [w64n i (by omega), show urnE (rd l (i : Int)) = true from by simp [urnE]; omega, Bool.true_and]
        exact ih (i + 1) (by omega)
theorem implUrnOk_ev (l : List Int) (hl : l.length ≤ 1000000000) : Ev (fun k => impl_UrnOk.f k l) (urnB l) := by
  unfold impl_UrnOk.f
  exact implUrnOk_loop l hl l.length 0 (by omega)

theorem l1Total_loop (l : List Int) (hl : l.length ≤ 1000) (B : Int) (hB : 0 ≤ B) (hB2 : B ≤ 1000000000) (hb : ∀ x ∈ l, -B ≤ x ∧ x ≤ B) (d : Nat) : ∀ i : Nat, i + d = l.length → Ev (fun k => spec_l1Total.l0 k l (tot (l.take i)) (i : Int)) (tot l) := by
  induction d with
  | zero =>
    intro i hi
    refine Ev.step (fun _ => rfl) ?_
    refine ev_neg (by omega) (ev_eq (Ev.now _) ?_)
    rw [List.take_of_length_le (by omega)]
  | succ d ih =>
    intro i hi
    refine Ev.step (fun _ => rfl) ?_
    refine ev_pos (by omega) (ev_pos (by omega) ?_)
    have h1 := tot_abs (l.take i) B hB (fun x hx => hb x (List.mem_of_mem_take hx))
    have h2 := hb _ (rd_mem l i (by omega))
    have h3 : ((l.take i).length : Int) * B ≤ 1000 * 1000000000 := (mulb (by omega) (by rw [List.length_take]; omega) hB hB2).2
    have h4 : tot (l.take i) + rd l (i : Int) = tot (l.take (i + 1)) := by rw [take_rd l i (by omega), tot_append]; simp [tot]
    rw [w64n i (by omega), w64 (by omega) (by omega), h4]
    exact ih (i + 1) (by omega)
theorem l1Total_ev (l : List Int) (hl : l.length ≤ 1000) (hb : ∀ x ∈ l, -1000000000 ≤ x ∧ x ≤ 1000000000) : Ev (fun k => spec_l1Total.f k l) (tot l) := by
  unfold spec_l1Total.f
  exact l1Total_loop l hl 1000000000 (by omega) (by omega) hb l.length 0 (by omega)

theorem implCountRowOk_loop (c : Int) (l : List Int) (hl : l.length ≤ 1000000000) (d : Nat) : ∀ (i : Nat) (n : Int), 0 ≤ n → n ≤ 6 → i + d = l.length → Ev (fun k => impl_CountRowOk.l0 k c l n l (l.length : Int) (i : Int)) (cntL n (l.drop i) && (colB c && decide ((l.length : Int) = c))) := by
  induction d with
  | zero =>
    intro i n hn0 hn hi
    refine Ev.step (fun _ => rfl) ?_
    refine ev_neg (by omega) ?_
    rw [coloursOk_f, List.drop_eq_nil_of_le (by omega)]
    cases h : colB c
    · exact Ev.now _
    · refine ev_eq (Ev.now _) ?_
      simp [cntL]; rfl
  | succ d ih =>
    intro i n hn0 hn hi
    refine Ev.step (fun _ => rfl) ?_
    refine ev_pos (by omega) (ev_pos (by omega) (ev_pos (by omega) ?_))
    rw [drop_rd l i (by omega), cntL]
    by_cases h1 : rd l (i : Int) < 0
    · refine ev_pos h1 (ev_eq (Ev.now _) ?_)
      rw [show decide (0 ≤ rd l (i : Int) ∧ rd l (i : Int) ≤ n) = false from by simp; omega]; rfl
    · refine ev_neg h1 ?_
      by_cases h2 : rd l (i : Int) > n
      · refine ev_pos h2 (ev_eq (Ev.now _) ?_)
        rw [show decide (0 ≤ rd l (i : Int) ∧ rd l (i : Int) ≤ n) = false from by simp; omega]; rfl
      · refine ev_neg h2 ?_
        rw [w64n i (by omega), w64 (by omega) (by omega), show decide (0 ≤ rd l (i : Int) ∧ rd l (i : Int) ≤ n) = true from by simp; omega, Bool.true_and]
        exact ih (i + 1) _ (by omega) (by omega) (by omega)
theorem implCountRowOk_ev (c : Int) (l : List Int) (hl : l.length ≤ 1000000000) : Ev (fun k => impl_CountRowOk.f k c l) (cntB c l) := by
  unfold impl_CountRowOk.f
  exact implCountRowOk_loop c l hl l.length 0 6 (by omega) (by omega) (by omega)

theorem specCountRowOk_loop (c : Int) (l : List Int) (hl : l.length ≤ 1000000000) (d : Nat) : ∀ i : Nat, i + d = l.length → (∀ x ∈ l.take i, 0 ≤ x ∧ x ≤ 6) → Ev (fun k => spec_CountRowOk.l0 k c l (i : Int)) ((l.drop i).all (fun x => inB x 0 6) && (colB c && (decide ((l.length : Int) = c) && decide (tot l ≤ 6)))) := by
  induction d with
  | zero =>
    intro i hi hx
    refine Ev.step (fun _ => rfl) ?_
    refine ev_neg (by omega) ?_
    rw [l1In_f, List.drop_eq_nil_of_le (by omega), show inB c 1 3 = colB c from rfl]
    cases h : colB c
    · exact Ev.now _
    · simp only [Option.bind_some, if_true, List.all_nil, Bool.true_and]
      by_cases h1 : (l.length : Int) = c
      · refine ev_pos h1 ?_
        have hc : 1 ≤ c ∧ c ≤ 3 := by simpa [colB] using h
        rw [List.take_of_length_le (by omega)] at hx
        refine ev_eq (Ev.bind (l1Total_ev l (by omega) (fun x hx' => by have := hx x hx'; omega)) (Ev.now _)) ?_
        simp [h1]
      · refine ev_neg h1 (ev_eq (Ev.now _) ?_)
        simp [h1]
  | succ d ih =>
    intro i hi hx
    refine Ev.step (fun _ => rfl) ?_
    refine ev_pos (by omega) (ev_pos (by omega) ?_)
    rw [drop_rd l i (by omega), List.all_cons, l1In_f]
    cases h : inB (rd l (i : Int)) 0 6 with
    | false => exact Ev.now _
    | true =>
      simp only [Option.bind_some, if_true, Bool.true_and]
      rw [w64n i (by omega)]
      refine ih (i + 1) (by omega) ?_
      intro x hx'
      rw [take_rd l i (by omega)] at hx'
      rcases List.mem_append.1 hx' with hx' | hx'
      · exact hx x hx'
      · have e : x = rd l (i : Int) := by simpa using hx'
        subst e
        simpa [inB] using h
theorem specCountRowOk_ev (c : Int) (l : List Int) (hl : l.length ≤ 1000000000) : Ev (fun k => spec_CountRowOk.f k c l) (cntB c l) := by
  unfold spec_CountRowOk.f
  rw [← cntS_eq]
  exact specCountRowOk_loop c l hl l.length 0 (by omega) (by simp)

theorem l20Open_f (l : List Int) (hb : ∀ x ∈ l, (Lit.int .u8 x).wf = true) : ∃ b, spec_l20Open.f l = some (b, 0) ∧ OkB b := by
  unfold spec_l20Open.f
  by_cases h : (l.length : Int) > 2000
  · rw [if_pos h, if_pos (by omega)]
    exact ⟨_, rfl, fun x hx => u8_wf (hb x (List.mem_of_mem_take hx)), by rw [List.length_take]; omega⟩
  · rw [if_neg h]
    exact ⟨_, rfl, fun x hx => u8_wf (hb x hx), by omega⟩

theorem pick_ev {b : List Int} (hb : OkB b) {p : Int} (hp0 : 0 ≤ p) (hp : p ≤ 1000000) (n : Int) (hn0 : 1 ≤ n) (hn : n ≤ 1000000) : ∃ v, Ev (fun k => spec_l20Rd_pick.f k b p n) (v, p + 1) ∧ 0 ≤ v ∧ v < n := by
  obtain ⟨hb1, hb2⟩ := hb
  unfold spec_l20Rd_pick.f
  have e1 : wrap64 (p + 1) = p + 1 := w64 (by omega) (by omega)
  by_cases h0 : b.length = 0
  · refine ⟨0, ev_neg (by omega) ?_, by omega, by omega⟩
    rw [show ((b.length : Int) == 0) = true from by simp [h0], e1]
    exact Ev.step (fun _ => rfl) (Ev.now _)
  · have hz : ((b.length : Int) == 0) = false := by simp; intro hh; exact h0 (by simp [hh])
    have hat : ∀ i : Int, 0 ≤ i → i < b.length → 0 ≤ rd b i ∧ rd b i ≤ 255 := fun i h1 h2 => hb1 _ (rd_range b i h1 h2)
    have e2 : wrap64 (p + 1 - 1) = p := by rw [show p + 1 - 1 = p by omega]; exact w64 (by omega) (by omega)
    by_cases h1 : p < (b.length : Int)
    · have hr := hat p hp0 h1
      have ht := tmod_range (rd b p) n hr.1 (by omega)
      refine ⟨Int.tmod (rd b p) n, ev_neg (by omega) ?_, ht.1, ht.2⟩
      rw [hz, e1]
      refine Ev.step (fun _ => by rw [spec_l20Rd_pick.j0]) (ev_neg (by simp) ?_)
      rw [e2, w64 (x := rd b p) (by omega) (by omega)]
      exact ev_pos h1 (ev_pos hp0 (ev_neg (by omega) (Ev.now _)))
    · have m1 := tmod_range p (b.length : Int) hp0 (by omega)
      have e3 : wrap64 (p * 7) = p * 7 := w64 (by omega) (by omega)
      have e4 : wrap64 (p * 7 + 3) = p * 7 + 3 := w64 (by omega) (by omega)
      have m2 := tmod_range (p * 7 + 3) (b.length : Int) (by omega) (by omega)
      have r1 := hat _ m1.1 m1.2
      have r2 := hat _ m2.1 m2.2
      have d1 := tdiv_range p (b.length : Int) hp0 (by omega)
      have key : ∀ x y z : Int, 0 ≤ x → x ≤ 255 → 0 ≤ y → y ≤ 255 → 0 ≤ z → z ≤ 1000000 →
          wrap64 (wrap64 (wrap64 (wrap64 (wrap64 x * 131) + wrap64 (wrap64 y * 1117)) + wrap64 (p * 29)) + wrap64 (wrap64 z * 53)) = x * 131 + y * 1117 + p * 29 + z * 53 := by
        intro x y z _ _ _ _ _ _
        rw [w64 (x := x) (by omega) (by omega), w64 (x := y) (by omega) (by omega), w64 (x := z) (by omega) (by omega), w64 (x := x * 131) (by omega) (by omega), w64 (x := y * 1117) (by omega) (by omega), w64 (x := p * 29) (by omega) (by omega), w64 (x := z * 53) (by omega) (by omega),
          w64 (x := x * 131 + y * 1117) (by omega) (by omega), w64 (x := x * 131 + y * 1117 + p * 29) (by omega) (by omega), w64 (by omega) (by omega)]
      obtain ⟨X, hX, hX0, hX1⟩ : ∃ X, wrap64 (wrap64 (wrap64 (wrap64 (wrap64 (rd b (Int.tmod p b.length)) * 131) + wrap64 (wrap64 (rd b (Int.tmod (p * 7 + 3) b.length)) * 1117)) + wrap64 (p * 29)) + wrap64 (wrap64 (Int.tdiv p b.length) * 53)) = X ∧ 0 ≤ X ∧ X ≤ 100000000 :=
        ⟨_, key _ _ _ r1.1 r1.2 r2.1 r2.2 d1.1 (by omega), by omega, by omega⟩
      have d2 := tdiv_range X 64 hX0 (by omega)
      have hx := xor_nonneg X (Int.tdiv X 64) hX0 (by omega) d2.1 (by omega)
      have ht := tmod_range _ n hx (by omega)
      refine ⟨Int.tmod (Go.bits .xor .i64 X (Int.tdiv X 64)) n, ev_neg (by omega) ?_, ht.1, ht.2⟩
      rw [hz, e1]
      refine Ev.step (fun _ => by rw [spec_l20Rd_pick.j0]) (ev_neg (by simp) ?_)
      rw [e2, e3, e4, hX, w64 (x := Int.tdiv X 64) (by omega) (by omega)]
      exact ev_neg h1 (ev_neg (by omega) (ev_pos m1.1 (ev_pos m1.2 (ev_pos m2.1 (ev_pos m2.2 (ev_neg (by omega) (Ev.now _)))))))

theorem l20Counts_loop {b : List Int} (hb : OkB b) (c : Nat) (hc : c ≤ 4) (d : Nat) : ∀ (i : Nat) (l : List Int) (p : Int), 0 ≤ p → p ≤ 900000 - 10 * (5 - i) → i + d = c + 1 → l.length = i → (∀ x ∈ l, -1000 ≤ x ∧ x ≤ 1000) →
    ∃ u p', Ev (fun k => spec_l20Counts.l0 k (c : Int) l (i : Int) b p) (u, p') ∧ p ≤ p' ∧ p' ≤ p + 4 * d + 1 ∧ u.length ≤ 5 ∧ ∀ x ∈ u, -1000 ≤ x ∧ x ≤ 1000 := by
  induction d with
  | zero =>
    intro i l p hp0 hp hi hl hx
    obtain ⟨v, hv, hv0, hv1⟩ := pick_ev hb hp0 (by omega) 30 (by omega) (by omega)
    refine ⟨l, p + 1, Ev.step (fun _ => rfl) (Ev.bind hv (ev_neg ?_ (Ev.now _))), by omega, by omega, by omega, hx⟩
    have := Int.tdiv_eq_ediv_of_nonneg (b := 29) hv0
    simp only
    rw [this, w64 (x := v / 29) (by omega) (by omega), w64 (by omega) (by omega)]
    omega
  | succ d ih =>
    intro i l p hp0 hp hi hl hx
    obtain ⟨v, hv, hv0, hv1⟩ := pick_ev hb hp0 (by omega) 30 (by omega) (by omega)
    by_cases hlt : (i : Int) < wrap64 ((c : Int) + wrap64 (Int.tdiv v 29))
    · obtain ⟨v1, hv1, a1, a2⟩ := pick_ev hb (p := p + 1) (by omega) (by omega) 3 (by omega) (by omega)
      obtain ⟨v2, hv2, a3, a4⟩ := pick_ev hb (p := p + 1 + 1) (by omega) (by omega) 12 (by omega) (by omega)
      obtain ⟨v3, hv3, a5, a6⟩ := pick_ev hb (p := p + 1 + 1 + 1) (by omega) (by omega) 60 (by omega) (by omega)
      have e2 := tdiv_range v2 11 a3 (by omega)
      have e3 := tdiv_range v3 59 a5 (by omega)
      have e : wrap64 (wrap64 (v1 + wrap64 (wrap64 (Int.tdiv v2 11) * 3)) - wrap64 (wrap64 (Int.tdiv v3 59) * 3)) = v1 + Int.tdiv v2 11 * 3 - Int.tdiv v3 59 * 3 := by
        rw [w64 (x := Int.tdiv v2 11) (by omega) (by omega), w64 (x := Int.tdiv v3 59) (by omega) (by omega), w64 (x := Int.tdiv v2 11 * 3) (by omega) (by omega), w64 (x := Int.tdiv v3 59 * 3) (by omega) (by omega), w64 (x := v1 + Int.tdiv v2 11 * 3) (by omega) (by omega), w64 (by omega) (by omega)]
      obtain ⟨u, p', hu, h1, h2, h3, h4⟩ := ih (i + 1) (l ++ [v1 + Int.tdiv v2 11 * 3 - Int.tdiv v3 59 * 3]) (p + 1 + 1 + 1 + 1) (by omega) (by omega) (by omega) (by simp; omega) (fun x h => by
        rcases List.mem_append.1 h with h | h
        · exact hx x h
        · have : x = v1 + Int.tdiv v2 11 * 3 - Int.tdiv v3 59 * 3 := by simpa using h
          omega)
      refine ⟨u, p', Ev.step (fun _ => rfl) (Ev.bind hv (ev_pos hlt (Ev.bind hv1 (Ev.bind hv2 (Ev.bind hv3 (ev_pos (by omega) ?_)))))), by omega, by omega, h3, h4⟩
      simp only
      rw [e, w64n i (by omega)]
      exact hu
    · exact ⟨l, p + 1, Ev.step (fun _ => rfl) (Ev.bind hv (ev_neg hlt (Ev.now _))), by omega, by omega, by omega, hx⟩
theorem l20Counts_ev {b : List Int} (hb : OkB b) {p : Int} (hp0 : 0 ≤ p) (hp : p ≤ 800000) (c : Nat) (hc : c ≤ 4) :
    ∃ u p', Ev (fun k => spec_l20Counts.f k b p c) (u, p') ∧ p ≤ p' ∧ p' ≤ p + 30 ∧ u.length ≤ 5 ∧ ∀ x ∈ u, -1000 ≤ x ∧ x ≤ 1000 := by
  obtain ⟨u, p', hu, h1, h2, h3, h4⟩ := l20Counts_loop hb c hc (c + 1) 0 [] p hp0 (by omega) (by omega) rfl (by simp)
  exact ⟨u, p', hu, by omega, by omega, h3, h4⟩

theorem alive_ev : Ev (fun k => laws_alive.f k) true := by
  unfold laws_alive.f
  exact Ev.bind (implUrnOk_ev [1] (by simp)) (ev_pos (by decide) (Ev.bind (implUrnOk_ev [] (by simp)) (Ev.now _)))

theorem l2Product_loop (n : Nat) (hn : n ≤ 6) (d : Nat) : ∀ i : Nat, 1 ≤ i → i + d = n → Ev (fun k => spec_l2Product.l0 k (n : Int) (facP i) ((i : Int) + 1)) (facP n) := by
  induction d with
  | zero =>
    intro i h1 hi
    refine Ev.step (fun _ => rfl) ?_
    obtain rfl : i = n := by omega
    exact ev_neg (by omega) (Ev.now _)
  | succ d ih =>
    intro i h1 hi
    refine Ev.step (fun _ => rfl) ?_
    refine ev_pos (by omega) ?_
    have hb := fac_bound (i + 1) (by omega)
    have e : facP (i + 1) = facP i * ((i : Int) + 1) := rfl
    rw [w64 (x := facP i * ((i : Int) + 1)) (by omega) (by omega), ← e, w64 (x := (i : Int) + 1 + 1) (by omega) (by omega)]
    exact ih (i + 1) (by omega) (by omega)
theorem l2Product_ev (n : Int) (h0 : 0 ≤ n) (h6 : n ≤ 6) : Ev (fun k => spec_l2Product.f k n) (facP n.toNat) := by
  obtain ⟨m, rfl⟩ := Int.eq_ofNat_of_zero_le h0
  rw [Int.toNat_natCast]
  unfold spec_l2Product.f
  cases m with
  | zero =>
    refine Ev.step (fun _ => rfl) ?_
    exact ev_neg (by omega) (Ev.now _)
  | succ m => exact l2Product_loop (m + 1) (by omega) m 1 (by omega) (by omega)

theorem specWordsWith_loop (l : List Int) (hl : l.length ≤ 3) (hb : ∀ x ∈ l, 0 ≤ x ∧ x ≤ 6) (d : Nat) : ∀ (i : Nat) (v : Int), i + d = l.length → 0 ≤ v → v ≤ 720 → Ev (fun k => spec_WordsWith.l0 k l v (i : Int)) (divs v (l.drop i)) := by
  induction d with
  | zero =>
    intro i v hi h0 h1
    refine Ev.step (fun _ => rfl) ?_
    refine ev_neg (by omega) (ev_eq (Ev.now _) ?_)
    rw [List.drop_eq_nil_of_le (by omega)]
    rfl
  | succ d ih =>
    intro i v hi h0 h1
    refine Ev.step (fun _ => rfl) ?_
    have hx := hb _ (rd_mem l i (by omega))
    have hf := fac_bound (rd l (i : Int)).toNat (by omega)
    have ht := tdiv_range v (facP (rd l (i : Int)).toNat) h0 (by omega)
    refine ev_pos (by omega) (ev_pos (by omega) (Ev.bind (l2Product_ev _ hx.1 hx.2) (ev_neg (by omega) ?_)))
    rw [drop_rd l i (by omega), w64n i (by omega), w64 (by omega) (by omega)]
    exact ih (i + 1) _ (by omega) (by omega) (by omega)
theorem specWordsWith_ev (c : Int) (l : List Int) (hl : l.length ≤ 1000000000) : Ev (fun k => spec_WordsWith.f k c l) (wordsWithP c l) := by
  unfold spec_WordsWith.f wordsWithP
  refine Ev.bind (specCountRowOk_ev c l hl) ?_
  by_cases h : cntB c l = true
  case neg => exact ev_neg h (ev_eq (Ev.now _) (by rw [if_neg h]))
  obtain ⟨h1, h2, h3, _, h5, h6⟩ := cntB_known h
  have hf := fac_bound (tot l).toNat (by omega)
  rw [if_pos h]
  refine ev_pos h (Ev.bind (l1Total_ev l (by omega) (fun x hx => by have := h1 x hx; omega)) (Ev.bind (l2Product_ev _ h5 h6) ?_))
  exact specWordsWith_loop l h3 h1 l.length 0 _ (by omega) (by omega) (by omega)

theorem implWordsWith_ev (c : Int) (l : List Int) (hl : l.length ≤ 1000000000) : Ev (fun k => impl_WordsWith.f k c l) (wordsWithP c l) := by
  unfold impl_WordsWith.f
  exact ev_pos hl (Ev.now _)

theorem DrawWordsWith_ev (l : List Int) (hb : ∀ x ∈ l, (Lit.int .u8 x).wf = true) : ∃ c w, Ev (fun k => spec_DrawWordsWith.f k l) (c, w) ∧ w.length ≤ 5 := by
  obtain ⟨b, hf, hk⟩ := l20Open_f l hb
  obtain ⟨v1, e1, a1, b1⟩ := pick_ev hk (p := 0) (by omega) (by omega) 3 (by omega) (by omega)
  obtain ⟨m, rfl⟩ := Int.eq_ofNat_of_zero_le a1
  obtain ⟨w, p', hw, _, _, h3, _⟩ := l20Counts_ev hk (p := 0 + 1) (by omega) (by omega) (1 + m) (by omega)
  rw [show ((1 + m : Nat) : Int) = wrap64 (1 + (m : Int)) from by rw [w64 (by omega) (by omega)]; omega] at hw
  exact ⟨_, w, by
    unfold spec_DrawWordsWith.f
    rw [hf]
    exact Ev.bind (Ev.now _) (Ev.bind e1 (Ev.bind hw (Ev.now _))), h3⟩

theorem FnWordsWith_loop (c : Int) (l : List Int) (h : cntB c l = true) (d : Nat) : ∀ (i : Nat) (b : Bool), i + d = l.length → (b = true → ∃ j : Nat, j < i ∧ 0 < rd l (j : Int)) → (b ≠ true → ∀ j : Nat, j < i → ¬ 0 < rd l (j : Int)) → Ev (fun k => laws_FnWordsWith.l0 k c l (multP l) (sumN (lessF l) i) b (l.take i).reverse (i : Int)) true := by
  obtain ⟨k1, k2, k3, k4, k5, k6⟩ := cntB_known h
  induction d with
  | zero =>
    intro i b hi hb1 hb2
    refine Ev.step (fun _ => rfl) ?_
    have hi2 : i = l.length := by omega
    subst hi2
    rw [List.take_of_length_le (Nat.le_refl _)]
    have hr := cnt_rev h
    have hw : Ev (fun k => impl_WordsWith.f k c l.reverse) (multP l) := ev_eq (implWordsWith_ev c l.reverse (by rw [List.length_reverse]; omega)) (by unfold wordsWithP; rw [if_pos hr.1, hr.2])
    refine ev_neg (by omega) ?_
    by_cases hb : b = true
    · obtain ⟨j, hj, h0⟩ := hb1 hb
      exact ev_pos hb (ev_pos (mult_any h ⟨j, hj, h0⟩) (Ev.bind hw (ev_eq (Ev.now _) (by simp))))
    · exact ev_neg hb (ev_pos (mult_none h (hb2 hb)) (Ev.bind hw (ev_eq (Ev.now _) (by simp))))
  | succ d ih =>
    intro i b hi hb1 hb2
    refine Ev.step (fun _ => rfl) ?_
    have hx := k1 _ (rd_mem l i (by omega))
    have hs := sumN_bound (lessF l) 729 i (fun j hj => less_bound h j (by omega))
    have hl := less_bound h i (by omega)
    have e2 : [rd l (i : Int)] ++ (l.take i).reverse = (l.take (i + 1)).reverse := by rw [take_rd l i (by omega), List.reverse_append]; rfl
    refine ev_pos (by omega) (ev_pos (by omega) (ev_pos (by omega) (Ev.bind (Ev.now _) (ev_pos (by simp; omega) (Ev.bind (Ev.now _) ?_)))))
    by_cases h0 : 0 < rd l (i : Int)
    · have e : ([] ++ l).set (i : Int).toNat (wrap64 (rd ([] ++ l) (i : Int) - 1)) = lessL l i := by rw [List.nil_append, Int.toNat_natCast, w64 (by omega) (by omega)]; rfl
      have hw : Ev (fun k => impl_WordsWith.f k c (([] ++ l).set (i : Int).toNat (wrap64 (rd ([] ++ l) (i : Int) - 1)))) (lessF l i) := by
        rw [e]
        exact ev_eq (implWordsWith_ev c _ (by rw [less_length]; omega)) (by unfold wordsWithP lessF; rw [if_pos h0, if_pos (cnt_less h i (by omega) h0)])
      refine ev_pos h0 (Ev.bind (Ev.now _) (ev_pos (by simp; omega) (Ev.bind (Ev.now _) (ev_pos (by simp; omega) (Ev.bind hw ?_)))))
      rw [e2, w64n i (by omega), w64 (by omega) (by omega)]
      exact ih (i + 1) true (by omega) (fun _ => ⟨i, by omega, h0⟩) (fun hf => absurd rfl hf)
    · refine ev_neg h0 ?_
      rw [e2, w64n i (by omega)]
      have e3 : sumN (lessF l) (i + 1) = sumN (lessF l) i := by
        have : lessF l i = 0 := if_neg h0
        simp only [sumN, this]; omega
      rw [← e3]
      refine ih (i + 1) b (by omega) (fun hb => ?_) (fun hb j hj => ?_)
      · obtain ⟨j, hj, h1⟩ := hb1 hb
        exact ⟨j, by omega, h1⟩
      · by_cases hji : j = i
        · rw [hji]; exact h0
        · exact hb2 hb j (by omega)
theorem FnWordsWith : laws_FnWordsWith.Pure := by
  intro l _ _ hb
  refine Ev.rounds (g := fun k => laws_FnWordsWith.f k l) ?_
  unfold laws_FnWordsWith.f
  by_cases h : (l.length : Int) > 1048576
  · exact ev_pos h (Ev.now _)
  refine ev_neg h ?_
  obtain ⟨c, w, hd, hw⟩ := DrawWordsWith_ev l hb
  refine Ev.bind hd (Ev.bind (implWordsWith_ev c w (by omega)) (Ev.bind (specWordsWith_ev c w (by omega)) (ev_pos rfl ?_)))
  by_cases hh : cntB c w = true
  · have e : wordsWithP c w = multP w := if_pos hh
    have hm := (mult_wrap hh).2
    rw [e]
    refine ev_neg (by omega) ?_
    exact FnWordsWith_loop c w hh w.length 0 false (by omega) (fun hf => by cases hf) (fun _ j hj => by omega)
  · have e : wordsWithP c w = -1 := if_neg hh
    rw [e]
    exact ev_pos (by omega) (ev_pos rfl (Ev.bind (implCountRowOk_ev c w (by omega)) (ev_neg hh (Ev.bind alive_ev (Ev.now _)))))

end Go.Proofs.Ytdplpbhbacbcmaa.Pure
