/- The law FnCountsOf: for every input the printed function of the law answers true. No condition. -/
import Derived.Test.YtdplpbhbacbcmaaPFnCountsOfx4
import Derived.Test.YtdplpbhbacbcmaaPlain
import Derived.Test.YtdplpbhbacbcmaaPlainE
set_option linter.unusedVariables false
set_option linter.unusedSimpArgs false
namespace Go.Proofs.Ytdplpbhbacbcmaa.Pure
open Go.RowKit Go.Proofs.Ytdplpbhbacbcmaa.PFnCountsOf Go.Proofs.YtdplpbhbacbcmaaW.PrintWords Go.Proofs.YtdplpbhbacbcmaaW.PrintLast Go.Proofs.YtdplpbhbacbcmaaW.PrintMore Go.Proofs.Ytdplpbhbacbcmaa.Plain

theorem l1In_f (x a b : Int) : spec_l1In.f x a b = some (inB x a b) := by
  unfold spec_l1In.f inB
  by_cases h : x ≥ a
  · rw [if_pos h]; congr 1; simp [h]
  · rw [if_neg h]; congr 1; simp; omega

theorem coloursOk_f (x : Int) : impl_coloursOk.f x = some (colB x) := by
  unfold impl_coloursOk.f colB
  by_cases h : x ≥ 1
  · rw [if_pos h]; congr 1; simp [h]
  · rw [if_neg h]; congr 1; simp; omega

theorem implUrnOk_loop (l : List Int) (hl : l.length ≤ 1000000000) (d : Nat) : ∀ i : Nat, i + d = l.length → Ev (fun k => impl_UrnOk.l0 k l l (l.length : Int) (i : Int)) ((l.drop i).all urnE && colB l.length) := by
  induction d with
  | zero =>
    intro i hi
    refine Ev.step (fun _ => rfl) ?_
    refine ev_neg (by omega) ?_
    rw [coloursOk_f, List.drop_eq_nil_of_le (by omega)]
    exact Ev.now _
  | succ d ih =>
    intro i hi
    refine Ev.step (fun _ => rfl) ?_
    refine ev_pos (by omega) (ev_pos (by omega) (ev_pos (by omega) ?_))
    rw [drop_rd l i (by omega), List.all_cons]
    by_cases h1 : rd l (i : Int) < 0
    · refine ev_pos h1 (ev_eq (Ev.now _) ?_)
      rw [show urnE (rd l (i : Int)) = false from by simp [urnE]; omega]; rfl
    · refine ev_neg h1 ?_
      by_cases h2 : rd l (i : Int) > 40
      · refine ev_pos h2 (ev_eq (Ev.now _) ?_)
        rw [show urnE (rd l (i : Int)) = false from by simp [urnE]; omega]; rfl
      · refine ev_neg h2 ?_
        rw [w64n i (by omega), show urnE (rd l (i : Int)) = true from by simp [urnE]; omega, Bool.true_and]
        exact ih (i + 1) (by omega)
theorem implUrnOk_ev (l : List Int) (hl : l.length ≤ 1000000000) : Ev (fun k => impl_UrnOk.f k l) (urnB l) := by
  unfold impl_UrnOk.f
  exact implUrnOk_loop l hl l.length 0 (by omega)

theorem implWordOk_loop (c : Int) (l : List Int) (hl : l.length ≤ 1000000000) (d : Nat) : ∀ i : Nat, i + d = l.length → Ev (fun k => impl_WordOk.l0 k c l l (l.length : Int) (i : Int)) ((l.drop i).all (fun x => decide (0 ≤ x ∧ x < c)) && (colB c && decide ((l.length : Int) ≤ 6))) := by
  induction d with
  | zero =>
    intro i hi
    refine Ev.step (fun _ => rfl) ?_
    refine ev_neg (by omega) ?_
    rw [coloursOk_f, List.drop_eq_nil_of_le (by omega)]
    cases h : colB c <;> exact Ev.now _
  | succ d ih =>
    intro i hi
    refine Ev.step (fun _ => rfl) ?_
    refine ev_pos (by omega) (ev_pos (by omega) (ev_pos (by omega) ?_))
    rw [drop_rd l i (by omega), List.all_cons]
    by_cases h1 : rd l (i : Int) < 0
    · refine ev_pos h1 (ev_eq (Ev.now _) ?_)
      rw [show decide (0 ≤ rd l (i : Int) ∧ rd l (i : Int) < c) = false from by simp; omega]; rfl
    · refine ev_neg h1 ?_
      by_cases h2 : rd l (i : Int) ≥ c
      · refine ev_pos h2 (ev_eq (Ev.now _) ?_)
        rw [show decide (0 ≤ rd l (i : Int) ∧ rd l (i : Int) < c) = false from by simp; omega]; rfl
      · refine ev_neg h2 ?_
        rw [w64n i (by omega), show decide (0 ≤ rd l (i : Int) ∧ rd l (i : Int) < c) = true from by simp; omega, Bool.true_and]
        exact ih (i + 1) (by omega)
theorem implWordOk_ev (c : Int) (l : List Int) (hl : l.length ≤ 1000000000) : Ev (fun k => impl_WordOk.f k c l) (wordB c l) := by
  unfold impl_WordOk.f
  exact implWordOk_loop c l hl l.length 0 (by omega)

theorem specWordOk_loop (c : Int) (l : List Int) (hl : l.length ≤ 1000000000) (d : Nat) : ∀ i : Nat, i + d = l.length → Ev (fun k => spec_WordOk.l0 k c l (i : Int)) ((l.drop i).all (fun x => decide (0 ≤ x ∧ x < c)) && (colB c && decide ((l.length : Int) ≤ 6))) := by
  induction d with
  | zero =>
    intro i hi
    refine Ev.step (fun _ => rfl) ?_
    refine ev_neg (by omega) ?_
    rw [l1In_f, List.drop_eq_nil_of_le (by omega), show inB c 1 3 = colB c from rfl]
    cases h : colB c <;> exact Ev.now _
  | succ d ih =>
    intro i hi
    refine Ev.step (fun _ => rfl) ?_
    refine ev_pos (by omega) (ev_pos (by omega) ?_)
    rw [drop_rd l i (by omega), List.all_cons]
    by_cases h1 : rd l (i : Int) < 0
    · refine ev_pos h1 (ev_eq (Ev.now _) ?_)
      rw [show decide (0 ≤ rd l (i : Int) ∧ rd l (i : Int) < c) = false from by simp; omega]; rfl
    · refine ev_neg h1 ?_
      by_cases h2 : rd l (i : Int) ≥ c
      · refine ev_pos h2 (ev_eq (Ev.now _) ?_)
        rw [show decide (0 ≤ rd l (i : Int) ∧ rd l (i : Int) < c) = false from by simp; omega]; rfl
      · refine ev_neg h2 ?_
        rw [w64n i (by omega), show decide (0 ≤ rd l (i : Int) ∧ rd l (i : Int) < c) = true from by simp; omega, Bool.true_and]
        exact ih (i + 1) (by omega)
theorem specWordOk_ev (c : Int) (l : List Int) (hl : l.length ≤ 1000000000) : Ev (fun k => spec_WordOk.f k c l) (wordB c l) := by
  unfold spec_WordOk.f
  exact specWordOk_loop c l hl l.length 0 (by omega)

theorem implCountRowOk_loop (c : Int) (l : List Int) (hl : l.length ≤ 1000000000) (d : Nat) : ∀ (i : Nat) (n : Int), 0 ≤ n → n ≤ 6 → i + d = l.length → Ev (fun k => impl_CountRowOk.l0 k c l n l (l.length : Int) (i : Int)) (cntL n (l.drop i) && (colB c && decide ((l.length : Int) = c))) := by
  induction d with
  | zero =>
    intro i n hn0 hn hi
    refine Ev.step (fun _ => rfl) ?_
    refine ev_neg (by omega) ?_
    rw [coloursOk_f, List.drop_eq_nil_of_le (by omega)]
    cases h : colB c
    · exact Ev.now _
    · refine ev_eq (Ev.now _) ?_
      simp [cntL]; rfl
  | succ d ih =>
    intro i n hn0 hn hi
    refine Ev.step (fun _ => rfl) ?_
    refine ev_pos (by omega) (ev_pos (by omega) (ev_pos (by omega) ?_))
    rw [drop_rd l i (by omega), cntL]
    by_cases h1 : rd l (i : Int) < 0
    · refine ev_pos h1 (ev_eq (Ev.now _) ?_)
      rw [show decide (0 ≤ rd l (i : Int) ∧ rd l (i : Int) ≤ n) = false from by simp; omega]; rfl
    · refine ev_neg h1 ?_
      by_cases h2 : rd l (i : Int) > n
      · refine ev_pos h2 (ev_eq (Ev.now _) ?_)
        rw [show decide (0 ≤ rd l (i : Int) ∧ rd l (i : Int) ≤ n) = false from by simp; omega]; rfl
      · refine ev_neg h2 ?_
        rw [w64n i (by omega), w64 (by omega) (by omega), show decide (0 ≤ rd l (i : Int) ∧ rd l (i : Int) ≤ n) = true from by simp; omega, Bool.true_and]
        exact ih (i + 1) _ (by omega) (by omega) (by omega)
theorem implCountRowOk_ev (c : Int) (l : List Int) (hl : l.length ≤ 1000000000) : Ev (fun k => impl_CountRowOk.f k c l) (cntB c l) := by
  unfold impl_CountRowOk.f
  exact implCountRowOk_loop c l hl l.length 0 6 (by omega) (by omega) (by omega)

theorem cstep_wrap (ws : List Int) (hl : ws.length ≤ 6) (c : Nat) (hw : ∀ x ∈ ws, 0 ≤ x ∧ x < (c : Int)) (i : Nat) (hi : i < ws.length) :
    (rd ws (i : Int) < ((((ws.take i).foldl cstep (List.replicate c 0)).length : Nat) : Int)) ∧
    ((ws.take i).foldl cstep (List.replicate c 0)).set (rd ws (i : Int)).toNat (wrap64 (rd ((ws.take i).foldl cstep (List.replicate c 0)) (rd ws (i : Int)) + 1)) = (ws.take (i + 1)).foldl cstep (List.replicate c 0) := by
  have hc := hw _ (rd_mem ws i hi)
  have hlen : ((ws.take i).foldl cstep (List.replicate c 0)).length = c := by rw [foldl_cstep_length, List.length_replicate]
  have hb := cntsOf_bound c (ws.take i) _ (rd_range ((ws.take i).foldl cstep (List.replicate c 0)) (rd ws (i : Int)) hc.1 (by rw [hlen]; exact hc.2))
  have ht : ((ws.take i).length : Int) ≤ 6 := by rw [List.length_take]; omega
  refine ⟨by rw [hlen]; exact hc.2, ?_⟩
  rw [w64 (by omega) (by omega), take_rd ws i hi, List.foldl_append]
  rfl

theorem implCountsOf_loop (ws : List Int) (hl : ws.length ≤ 6) (c : Nat) (hw : ∀ x ∈ ws, 0 ≤ x ∧ x < (c : Int)) (d : Nat) : ∀ i : Nat, i + d = ws.length → Ev (fun k => impl_CountsOf.l0 k ((ws.take i).foldl cstep (List.replicate c 0)) ws (ws.length : Int) (i : Int)) (cntsOf c ws) := by
  induction d with
  | zero =>
    intro i hi
    refine Ev.step (fun _ => rfl) ?_
    refine ev_neg (by omega) (ev_eq (Ev.now _) ?_)
    rw [List.take_of_length_le (by omega)]; rfl
  | succ d ih =>
    intro i hi
    refine Ev.step (fun _ => rfl) ?_
    have hc := hw _ (rd_mem ws i (by omega))
    obtain ⟨e1, e2⟩ := cstep_wrap ws hl c hw i (by omega)
    refine ev_pos (by omega) (ev_pos (by omega) (ev_pos (by omega) (ev_pos hc.1 (ev_pos e1 ?_))))
    rw [w64n i (by omega), e2]
    exact ih (i + 1) (by omega)
theorem implCountsOf_ev (c : Int) (ws : List Int) (hl : ws.length ≤ 1000000000) : Ev (fun k => impl_CountsOf.f k c ws) (if wordB c ws = true then cntsOf c.toNat ws else []) := by
  unfold impl_CountsOf.f
  refine Ev.bind (implWordOk_ev c ws hl) ?_
  by_cases h : wordB c ws = true
  · rw [if_pos h]
    obtain ⟨h1, h2, h3, h4⟩ := wordB_bounds h
    refine ev_pos h (ev_pos (by omega) (ev_pos (by omega) ?_))
    exact implCountsOf_loop ws h4 c.toNat (fun x hx => by have := h1 x hx; omega) ws.length 0 (by omega)
  · rw [if_neg h]
    exact ev_neg h (Ev.now _)

theorem specCountsOf_loop (ws : List Int) (hl : ws.length ≤ 6) (c : Nat) (hw : ∀ x ∈ ws, 0 ≤ x ∧ x < (c : Int)) (d : Nat) : ∀ i : Nat, i + d = ws.length → Ev (fun k => spec_l2Counts.l0 k ws ((ws.take i).foldl cstep (List.replicate c 0)) (i : Int)) (cntsOf c ws) := by
  induction d with
  | zero =>
    intro i hi
    refine Ev.step (fun _ => rfl) ?_
    refine ev_neg (by omega) (ev_eq (Ev.now _) ?_)
    rw [List.take_of_length_le (by omega)]; rfl
  | succ d ih =>
    intro i hi
    refine Ev.step (fun _ => rfl) ?_
    have hc := hw _ (rd_mem ws i (by omega))
    obtain ⟨e1, e2⟩ := cstep_wrap ws hl c hw i (by omega)
    refine ev_pos (by omega) (ev_pos (by omega) (ev_pos hc.1 (ev_pos e1 ?_)))
    rw [w64n i (by omega), e2]
    exact ih (i + 1) (by omega)
theorem specCountsOf_ev (c : Int) (ws : List Int) (hl : ws.length ≤ 1000000000) : Ev (fun k => spec_CountsOf.f k c ws) (if wordB c ws = true then cntsOf c.toNat ws else []) := by
  unfold spec_CountsOf.f
  refine Ev.bind (specWordOk_ev c ws hl) ?_
  by_cases h : wordB c ws = true
  · rw [if_pos h]
    obtain ⟨h1, h2, h3, h4⟩ := wordB_bounds h
    refine ev_pos h (Ev.bind (g := fun k => spec_l2Counts.f k c ws) (a := cntsOf c.toNat ws) ?_ (Ev.now _))
    unfold spec_l2Counts.f
    refine ev_pos (by omega) (ev_pos (by omega) ?_)
    exact specCountsOf_loop ws h4 c.toNat (fun x hx => by have := h1 x hx; omega) ws.length 0 (by omega)
  · rw [if_neg h]
    exact ev_neg h (Ev.now _)

theorem l20Open_f (l : List Int) (hb : ∀ x ∈ l, (Lit.int .u8 x).wf = true) : ∃ b, spec_l20Open.f l = some (b, 0) ∧ OkB b := by
  unfold spec_l20Open.f
  by_cases h : (l.length : Int) > 2000
  · rw [if_pos h, if_pos (by omega)]
    exact ⟨_, rfl, fun x hx => u8_wf (hb x (List.mem_of_mem_take hx)), by rw [List.length_take]; omega⟩
  · rw [if_neg h]
    exact ⟨_, rfl, fun x hx => u8_wf (hb x hx), by omega⟩

theorem pick_ev {b : List Int} (hb : OkB b) {p : Int} (hp0 : 0 ≤ p) (hp : p ≤ 1000000) (n : Int) (hn0 : 1 ≤ n) (hn : n ≤ 1000000) : ∃ v, Ev (fun k => spec_l20Rd_pick.f k b p n) (v, p + 1) ∧ 0 ≤ v ∧ v < n := by
  obtain ⟨hb1, hb2⟩ := hb
  unfold spec_l20Rd_pick.f
  have e1 : wrap64 (p + 1) = p + 1 := w64 (by omega) (by omega)
  by_cases h0 : b.length = 0
  · refine ⟨0, ev_neg (by omega) ?_, by omega, by omega⟩
    rw [show ((b.length : Int) == 0) = true from by simp [h0], e1]
    exact Ev.step (fun _ => rfl) (Ev.now _)
  · have hz : ((b.length : Int) == 0) = false := by simp; intro hh; exact h0 (by simp [hh])
    have hat : ∀ i : Int, 0 ≤ i → i < b.length → 0 ≤ rd b i ∧ rd b i ≤ 255 := fun i h1 h2 => hb1 _ (rd_range b i h1 h2)
    have e2 : wrap64 (p + 1 - 1) = p := by rw [show p + 1 - 1 = p by omega]; exact w64 (by omega) (by omega)
    by_cases h1 : p < (b.length : Int)
    · have hr := hat p hp0 h1
      have ht := tmod_range (rd b p) n hr.1 (by omega)
      refine ⟨Int.tmod (rd b p) n, ev_neg (by omega) ?_, ht.1, ht.2⟩
      rw [hz, e1]
      refine Ev.step (fun _ => by rw [spec_l20Rd_pick.j0]) (ev_neg (by simp) ?_)
      rw [e2, w64 (x := rd b p) (by omega) (by omega)]
      exact ev_pos h1 (ev_pos hp0 (ev_neg (by omega) (Ev.now _)))
    · have m1 := tmod_range p (b.length : Int) hp0 (by omega)
      have e3 : wrap64 (p * 7) = p * 7 := w64 (by omega) (by omega)
      have e4 : wrap64 (p * 7 + 3) = p * 7 + 3 := w64 (by omega) (by omega)
      have m2 := tmod_range (p * 7 + 3) (b.length : Int) (by omega) (by omega)
      have r1 := hat _ m1.1 m1.2
      have r2 := hat _ m2.1 m2.2
      have d1 := tdiv_range p (b.length : Int) hp0 (by omega)
      have key : ∀ x y z : Int, 0 ≤ x → x ≤ 255 → 0 ≤ y → y ≤ 255 → 0 ≤ z → z ≤ 1000000 →
          wrap64 (wrap64 (wrap64 (wrap64 (wrap64 x * 131) + wrap64 (wrap64 y * 1117)) + wrap64 (p * 29)) + wrap64 (wrap64 z * 53)) = x * 131 + y * 1117 + p * 29 + z * 53 := by
        intro x y z _ _ _ _ _ _
        rw [w64 (x := x) (by omega) (by omega), w64 (x := y) (by omega) (by omega), w64 (x := z) (by omega) (by omega), w64 (x := x * 131) (by omega) (by omega), w64 (x := y * 1117) (by omega) (by omega), w64 (x := p * 29) (by omega) (by omega), w64 (x := z * 53) (by omega) (by omega),
          w64 (x := x * 131 + y * 1117) (by omega) (by omega), w64 (x := x * 131 + y * 1117 + p * 29) (by omega) (by omega), w64 (by omega) (by omega)]
      obtain ⟨X, hX, hX0, hX1⟩ : ∃ X, wrap64 (wrap64 (wrap64 (wrap64 (wrap64 (rd b (Int.tmod p b.length)) * 131) + wrap64 (wrap64 (rd b (Int.tmod (p * 7 + 3) b.length)) * 1117)) + wrap64 (p * 29)) + wrap64 (wrap64 (Int.tdiv p b.length) * 53)) = X ∧ 0 ≤ X ∧ X ≤ 100000000 :=
        ⟨_, key _ _ _ r1.1 r1.2 r2.1 r2.2 d1.1 (by omega), by omega, by omega⟩
      have d2 := tdiv_range X 64 hX0 (by omega)
      have hx := xor_nonneg X (Int.tdiv X 64) hX0 (by omega) d2.1 (by omega)
      have ht := tmod_range _ n hx (by omega)
      refine ⟨Int.tmod (Go.bits .xor .i64 X (Int.tdiv X 64)) n, ev_neg (by omega) ?_, ht.1, ht.2⟩
      rw [hz, e1]
      refine Ev.step (fun _ => by rw [spec_l20Rd_pick.j0]) (ev_neg (by simp) ?_)
      rw [e2, e3, e4, hX, w64 (x := Int.tdiv X 64) (by omega) (by omega)]
      exact ev_neg h1 (ev_neg (by omega) (ev_pos m1.1 (ev_pos m1.2 (ev_pos m2.1 (ev_pos m2.2 (ev_neg (by omega) (Ev.now _)))))))

theorem odd_ev {b : List Int} (hb : OkB b) {p : Int} (hp0 : 0 ≤ p) (hp : p ≤ 1000000) (n : Int) (hn0 : 1 ≤ n) (hn : n ≤ 1000000) : ∃ v, Ev (fun k => spec_l20Rd_odd.f k b p n) (v, p + 1) := by
  obtain ⟨v, hv, _, _⟩ := pick_ev hb hp0 hp n hn0 hn
  unfold spec_l20Rd_odd.f
  exact ⟨_, ev_pos (by omega) (Ev.bind hv (Ev.now _))⟩

theorem l20Word_loop {b : List Int} (hb : OkB b) (c n : Int) (hc : c ≤ 1000) (hn0 : 1 ≤ n) (hn : n ≤ 1000000) (d : Nat) : ∀ (l : List Int) (p : Int), 0 ≤ p → p + d ≤ 900000 → d ≤ 4 → l.length + d ≤ 4 → (∀ x ∈ l, 0 ≤ x ∧ x ≤ 1000) →
    ∃ u p', Ev (fun k => spec_l20Word.l0 k c n l (d : Int) b p) (u, p') ∧ p ≤ p' ∧ p' ≤ p + d + 5 ∧ u.length ≤ 7 ∧ ∀ x ∈ u, 0 ≤ x ∧ x ≤ 1000 := by
  induction d with
  | zero =>
    intro l p hp0 hp _ hl2 hx
    obtain ⟨v, hv⟩ := odd_ev hb hp0 (by omega) n hn0 hn
    cases v with
    | false =>
      exact ⟨l, p + 1, Ev.step (fun _ => rfl) (ev_neg (by omega) (Ev.bind hv (Ev.now _))), by omega, by omega, by omega, hx⟩
    | true =>
      obtain ⟨w, hw, hw0, hw1⟩ := pick_ev hb (p := p + 1) (by omega) (by omega) 2 (by omega) (by omega)
      by_cases h0 : w = 0
      · refine ⟨l ++ [3], p + 1 + 1, Ev.step (fun _ => rfl) (ev_neg (by omega) (Ev.bind hv (Ev.bind hw (ev_pos h0 (ev_pos (by omega) (Ev.now _)))))), by omega, by omega, by simp; omega, fun x h => ?_⟩
        rcases List.mem_append.1 h with h | h
        · exact hx x h
        · have : x = 3 := by simpa using h
          omega
      · exact ⟨[0, 0, 0, 0, 0, 0, 0], p + 1 + 1, Ev.step (fun _ => rfl) (ev_neg (by omega) (Ev.bind hv (Ev.bind hw (ev_neg h0 (Ev.now _))))), by omega, by omega, by simp, fun x h => by simp at h; omega⟩
  | succ d ih =>
    intro l p hp0 hp hd hl2 hx
    obtain ⟨v, hv, hv0, hv1⟩ := pick_ev hb hp0 (by omega) (mx c 1) (by unfold mx; split <;> omega) (by unfold mx; split <;> omega)
    have hv2 : v ≤ 1000 := by
      have : mx c 1 ≤ 1000 := by unfold mx; split <;> omega
      omega
    obtain ⟨u, p', hu, h1, h2, h3, h4⟩ := ih (l ++ [v]) (p + 1) (by omega) (by omega) (by omega) (by simp; omega) (fun x h => by
      rcases List.mem_append.1 h with h | h
      · exact hx x h
      · have : x = v := by simpa using h
        omega)
    refine ⟨u, p', Ev.step (fun _ => rfl) (ev_pos (by omega) (Ev.bind hv (ev_pos (by omega) ?_))), by omega, by omega, h3, h4⟩
    rw [w64 (by omega) (by omega), show ((d + 1 : Nat) : Int) - 1 = (d : Int) from by omega]
    exact hu
theorem l20Word_ev {b : List Int} (hb : OkB b) {p : Int} (hp0 : 0 ≤ p) (hp : p ≤ 800000) (c n : Int) (hc : c ≤ 1000) (hn0 : 1 ≤ n) (hn : n ≤ 1000000) :
    ∃ u p', Ev (fun k => spec_l20Word.f k b p c n) (u, p') ∧ p ≤ p' ∧ p' ≤ p + 11 ∧ u.length ≤ 7 ∧ ∀ x ∈ u, 0 ≤ x ∧ x ≤ 1000 := by
  obtain ⟨v, hv, hv0, hv1⟩ := pick_ev hb hp0 (by omega) 5 (by omega) (by omega)
  obtain ⟨m, rfl⟩ := Int.eq_ofNat_of_zero_le hv0
  obtain ⟨u, p', hu, h1, h2, h3, h4⟩ := l20Word_loop hb c n hc hn0 hn m [] (p + 1) (by omega) (by omega) (by omega) (by simp; omega) (by simp)
  refine ⟨u, p', ?_, by omega, by omega, h3, h4⟩
  unfold spec_l20Word.f
  exact Ev.bind hv hu

theorem alive_ev : Ev (fun k => laws_alive.f k) true := by
  unfold laws_alive.f
  exact Ev.bind (implUrnOk_ev [1] (by simp)) (ev_pos (by decide) (Ev.bind (implUrnOk_ev [] (by simp)) (Ev.now _)))

theorem sameInts_loop (l : List Int) (hl : l.length ≤ 1000000000) (d : Nat) : ∀ i : Nat, i + d = l.length → Ev (fun k => laws_sameInts.l0 k l l (i : Int)) true := by
  induction d with
  | zero =>
    intro i hi
    refine Ev.step (fun _ => rfl) ?_
    exact ev_neg (by omega) (Ev.now _)
  | succ d ih =>
    intro i hi
    refine Ev.step (fun _ => rfl) ?_
    refine ev_pos (by omega) (ev_pos (by omega) (ev_pos (by omega) (ev_pos rfl ?_)))
    rw [w64n i (by omega)]
    exact ih (i + 1) (by omega)
theorem sameInts_ev (l : List Int) (hl : l.length ≤ 1000000000) : Ev (fun k => laws_sameInts.f k l l) true := by
  unfold laws_sameInts.f
  exact ev_pos rfl (sameInts_loop l hl l.length 0 (by omega))

theorem implWordsWith_ev (c : Int) (l : List Int) (hl : l.length ≤ 1000000000) : Ev (fun k => impl_WordsWith.f k c l) (wordsWithP c l) := by
  unfold impl_WordsWith.f
  exact ev_pos hl (Ev.now _)

theorem DrawCountsOf_ev (l : List Int) (hb : ∀ x ∈ l, (Lit.int .u8 x).wf = true) : ∃ c w, Ev (fun k => spec_DrawCountsOf.f k l) (c, w) ∧ w.length ≤ 9 := by
  obtain ⟨b, hf, hk⟩ := l20Open_f l hb
  obtain ⟨v1, e1, a1, b1⟩ := pick_ev hk (p := 0) (by omega) (by omega) 3 (by omega) (by omega)
  obtain ⟨w, p', hw, _, _, h3, _⟩ := l20Word_ev hk (p := 0 + 1) (by omega) (by omega) (wrap64 (1 + v1)) 9 (by rw [w64 (by omega) (by omega)]; omega) (by omega) (by omega)
  exact ⟨_, w, by
    unfold spec_DrawCountsOf.f
    rw [hf]
    exact Ev.bind (Ev.now _) (Ev.bind e1 (Ev.bind hw (Ev.now _))), by omega⟩

theorem FnCountsOf_loop (c : Int) (w g : List Int) (hg : g.length ≤ 3) (hb : ∀ x ∈ g, 0 ≤ x ∧ x ≤ 6) (hc : cntB c g = true) (ht : tot g = w.length) (d : Nat) : ∀ i : Nat, i + d = g.length → Ev (fun k => laws_FnCountsOf.l0 k c w g (tot (g.take i)) (i : Int)) true := by
  induction d with
  | zero =>
    intro i hi
    refine Ev.step (fun _ => rfl) ?_
    rw [List.take_of_length_le (by omega)]
    refine ev_neg (by omega) (Ev.bind (implCountRowOk_ev c g (by omega)) (ev_pos hc (ev_pos ht (Ev.bind (implWordsWith_ev c g (by omega)) (ev_eq (Ev.now _) ?_)))))
    have := mult_pos hc
    unfold wordsWithP
    rw [if_pos hc]
    simpa using this
  | succ d ih =>
    intro i hi
    refine Ev.step (fun _ => rfl) ?_
    refine ev_pos (by omega) (ev_pos (by omega) ?_)
    have h1 := hb _ (rd_mem g i (by omega))
    have h2 := tot_bound (g.take i) 6 (by omega) (fun x hx => hb x (List.mem_of_mem_take hx))
    have h3 : ((g.take i).length : Int) * 6 ≤ 18 := by rw [List.length_take]; omega
    have e : tot (g.take (i + 1)) = tot (g.take i) + rd g (i : Int) := by rw [take_rd g i (by omega), tot_append]; simp [tot]
    rw [w64n i (by omega), w64 (by omega) (by omega), ← e]
    exact ih (i + 1) (by omega)
theorem FnCountsOf : laws_FnCountsOf.Pure := by
  intro l _ _ hb
  refine Ev.rounds (g := fun k => laws_FnCountsOf.f k l) ?_
  unfold laws_FnCountsOf.f
  by_cases h : (l.length : Int) > 1048576
  · exact ev_pos h (Ev.now _)
  refine ev_neg h ?_
  obtain ⟨c, w, hd, hw⟩ := DrawCountsOf_ev l hb
  refine Ev.bind hd (Ev.bind (implCountsOf_ev c w (by omega)) (Ev.bind (specCountsOf_ev c w (by omega)) ?_))
  by_cases hh : wordB c w = true
  · rw [if_pos hh]
    have hc := cnts_cntB hh
    obtain ⟨h1, h2, h3, h4, h5, h6⟩ := cntB_known hc
    refine Ev.bind (sameInts_ev _ (by omega)) (ev_pos rfl (ev_neg (show ¬ ((cntsOf c.toNat w).length : Int) = 0 by omega) ?_))
    obtain ⟨w1, w2, w3, w4⟩ := wordB_bounds hh
    exact FnCountsOf_loop c w _ h3 h1 hc (tot_cnts c.toNat w (fun q hq => by have := w1 q hq; omega)) (cntsOf c.toNat w).length 0 (by omega)
  · rw [if_neg hh]
    refine Ev.bind (sameInts_ev _ (by simp)) (ev_pos rfl (ev_pos rfl (Ev.bind (implWordOk_ev c w (by omega)) (ev_neg hh (Ev.bind alive_ev (Ev.now _))))))

end Go.Proofs.Ytdplpbhbacbcmaa.Pure
