/- The contract of markIntSS (rows that are the caller's own and apart are numbered through), and the law FnExactSameRule call by call. Condition: what the calls answer. (Laid by wip/gen/marks.py.) -/
import Derived.Test.YtieiflieppmboaaPFnExactSameRulex0
import Derived.Test.YtieiflieppmboaaPFnExactSameRulex1
import Derived.Test.YtieiflieppmboaaPFnExactSameRulex2
import Derived.WalkKit
set_option linter.unusedVariables false
set_option linter.unusedSimpArgs false
namespace Go.Proofs.Ytieiflieppmboaa.PFnExactSameRule
open Go.RowKit Go.Proofs.YtieiflieppmboaaW.PrintWords Go.Proofs.YtieiflieppmboaaW.PrintLast Go.Proofs.YtieiflieppmboaaW.PrintMore
def laws_markIntSS.l0 : Nat → List (List Int) → Int → Int → Option (Int × List (List Int))
  | 0, _, _, _ => none
  | k + 1, x0, x1, x5 => if x5 < (x0.length : Int) then (if 0 ≤ x5 then ((laws_markIntS.f k (rd_L1 x0 x5) x1).bind fun t => (laws_markIntSS.l0 k (x0.set x5.toNat t.2) t.1 (wrap64 (x5 + 1)))) else none) else some (x1, x0)
def laws_markIntSS.f (k : Nat) (l0 : List (List Int)) (a1 : Int) : Option (Int × List (List Int)) := laws_markIntSS.l0 k l0 a1 0
set_option maxHeartbeats 8000000 in
set_option maxRecDepth 100000 in
theorem laws_markIntSS.calls (k : Nat) (P0_ : Nat → Prop) (u9000_ : Value) (l0 : List (List Int)) (a1 : Int) (r1 : Int) (r2 : List (List Int)) (w0 w : World) (hB : Below w0.heap.size w0 w) (ho0 : Kd.S (Kd.slice 3 (Kd.int .i64)) 23 w w0.heap.size P0_ u9000_ l0) (h : laws_markIntSS.f k l0 a1 = some (r1, r2)) :
    Calls Try.prog 39 #[u9000_, .int .i64 a1] w fun e w' => e = .returned (.int .i64 r1) ∧ Kd.S (Kd.slice 3 (Kd.int .i64)) 23 w' w0.heap.size (fun k_ => (P0_ k_ ∨ w.heap.size ≤ k_)) u9000_ r2 ∧ Below w0.heap.size w0 w' ∧ Kept w w' (fun k_ => P0_ k_) := by
  have HO0 := Aside0.mk (show Kd.S (Kd.slice 3 (Kd.int .i64)) 23 w w0.heap.size (fun k_ => (P0_ k_ ∨ w.heap.size ≤ k_)) u9000_ l0 from Kd.S_mono ho0 (fun k_ hk => (.inl hk)))
  have HK := Aside0.mk (Kept.refl w (fun k_ => P0_ k_))
  have HB := Aside0.mk hB
  clear hB ho0
  have H : (laws_markIntSS.l0 k l0 a1 0) = some (r1, r2) := h
  clear h
  have H' := Aside0.mk H
  clear H
  go_enter Try.func39, Try.ntmps39
  go_wp2
  go_loopg [1, 5] k (fun kq v1 v5 w' => ∃ (x0_1 : List (List Int)) (x1_1 : Int) (x5_1 : Int), v1 = .int .i64 x1_1 ∧ v5 = .int .i64 x5_1 ∧ Aside0 (laws_markIntSS.l0 kq x0_1 x1_1 x5_1 = some (r1, r2)) ∧ Aside0 (kq ≤ k) ∧ Aside0 (Kd.S (Kd.slice 3 (Kd.int .i64)) 23 w' w0.heap.size (fun k_ => (P0_ k_ ∨ w.heap.size ≤ k_)) u9000_ x0_1) ∧ Aside0 (Kept w w' (fun k_ => P0_ k_)) ∧ Aside0 (Below w0.heap.size w0 w'))
  case atStart => exact ⟨(l0), (a1), (0), (by first | rfl | (simp; done) | (simp [*]; done)), (by first | rfl | (simp; done) | (simp [*]; done)), H', ⟨Nat.le_refl _⟩, ⟨HO0.out⟩, ⟨HK.out⟩, ⟨HB.out⟩⟩
  case round =>
    clear H'
    try clear p2
    obtain ⟨x0_1, x1_1, x5_1, rfl, rfl, HA, HK1, HO_0, HK, HB⟩ := hrel
    cases gk with
    | zero => exact absurd HA.out (by simp [laws_markIntSS.l0])
    | succ k1 =>
      have H := HA.out
      clear HA
      simp only [laws_markIntSS.l0] at H
      by_cases c3 : x5_1 < (x0_1.length : Int)
      · rw [if_pos c3] at H
        have c3b0 : decide (x5_1 < (x0_1.length : Int)) = true := decide_eq_true c3
        clear c3
        by_cases c4 : 0 ≤ x5_1
        · rw [if_pos c4] at H
          have c4b0 : decide (0 ≤ x5_1) = true := decide_eq_true c4
          clear c4
          replace H := Option.bind_eq_some_iff.mp H
          obtain ⟨⟨t1, t2⟩, A50, H⟩ := H
          replace H : (laws_markIntSS.l0 k1 (x0_1.set x5_1.toNat t2) t1 (wrap64 (x5_1 + 1))) = some (r1, r2) := H
          have A5 := Aside0.mk A50
          clear A50
          have H' := Aside0.mk H
          clear H
          have p5 : 0 ≤ (x5_1 : Int) := of_decide_eq_true (by first | (with_reducible assumption) | assumption)
          have q5 : (x5_1 : Int) < (x0_1.length : Int) := of_decide_eq_true (by first | (with_reducible assumption) | assumption)
          obtain ⟨go5, co5, eo5, gb5, gl5, cl5, HG5⟩ := Kd.S_form HO_0.out (by omega)
          subst eo5
          obtain ⟨oki, c, hlen, hM, hcell, hoki, HH⟩ := Kd.S_lend HO_0.out ([] : List Int) x5_1 p5 q5
          obtain ⟨v, rfl, hR⟩ := hM
          have hc0 := hcell 0 v rfl
          obtain ⟨Ar, cr, rfl⟩ := Kd.R_slice hR
          have hc1 : wr.cell? ⟨go5, x5_1.toNat, none⟩ = some (.slice Ar (rd_L1 x0_1 x5_1).length cr) := by
            have e : x5_1.toNat * (Kd.slice 3 (Kd.int .i64)).sz + 0 = x5_1.toNat := by show x5_1.toNat * 1 + 0 = _; omega
            rw [e] at hc0
            exact hc0
          have HR := Aside0.mk (show Kd.R (Kd.int .i64) 3 wr w0.heap.size oki (.slice Ar (rd_L1 x0_1 x5_1).length cr) (rd_L1 x0_1 x5_1) from hR)
          have HHa := Aside0.mk (Kd.H_widen HH)
          have HI := Aside0.mk hoki
          clear hc0 hcell hlen hR HH hoki
          replace p5 := eq_true p5
          replace q5 := eq_true q5
          go_wp2_with (first | ((with_reducible refine gate_callee (f := 34) rfl ?_); refine goesL_ (some 17) rfl rfl Try.func34 (by kernel_rfl) rfl #[.slice Ar (rd_L1 x0_1 x5_1).length cr, .int .i64 x1_1] rfl (by (try simp only [List.map_toArray, List.map_cons, List.map_nil]); first | done | rfl | (simp only [List.length_drop, List.length_take]; rfl)) ?_; (with_reducible refine (laws_markIntS.calls k1 oki (.slice Ar (rd_L1 x0_1 x5_1).length cr) (rd_L1 x0_1 x5_1) x1_1 t1 t2 w0 _ ?side1 ?side2 A5.out).mono ?_); (case side1 => exact HB.out); (case side2 => exact HR.out); rintro e w8 ⟨rfl, hy0, hb, hkp⟩; refine ⟨_, rfl, ?_⟩; have n0_ := Aside0.mk (Kd.H_back (x' := t2) (okp := fun k_ => oki k_ ∨ wr.heap.size ≤ k_) (Kd.H_kept HHa.out hkp (fun k_ _ hn ho => hn (.inl ho))) ⟨_, rfl, hy0⟩ (fun k_ hk => hk.elim .inl (fun h2 => .inr ⟨.inr (Nat.le_trans HK.out.1 h2), h2⟩))); have n1_ := Aside0.mk hb; have n2_ := Aside0.mk (Kept.then_ HK.out hkp (fun k_ hk => (HI.out k_ hk).1)); clear HO_0 HB HK HHa HR HI; have HO_0 := n0_; have HB := n1_; have HK := n2_; clear n0_ n1_ n2_ hy0 hb hkp))
          go_roundg k1
          case measure => have := HK1.out; omega
          case rel => exact ⟨(x0_1.set x5_1.toNat t2), t1, (wrap64 (x5_1 + 1)), (by first | rfl | (simp; done) | (simp [*]; done)), (by first | rfl | (simp; done) | (simp [*]; done)), H', ⟨by have := HK1.out; omega⟩, ⟨HO_0.out⟩, ⟨HK.out⟩, ⟨HB.out⟩⟩
        · rw [if_neg c4] at H
          exact absurd H (by simp)
      · rw [if_neg c3] at H
        have c3b0 : decide (x5_1 < (x0_1.length : Int)) = false := decide_eq_false c3
        clear c3
        simp only [Option.some.injEq, Prod.mk.injEq] at H
        obtain ⟨rfl, rfl⟩ := H
        obtain ⟨Ao9, co9, eo9⟩ := Kd.S_slice HO_0.out
        subst eo9
        go_wp2
        go_ret
        exact ⟨by first | rfl | (simp; done) | (simp [*]; done), HO_0.out, HB.out, HK.out⟩
set_option maxHeartbeats 8000000 in
set_option maxRecDepth 100000 in
theorem laws_FnExactSameRule.good (k : Nat) (a0 a1 : Int) (L L2 : List (List Int)) (m : Int) (w : World) (h1 : spec_SameRule.f k a0 a1 = some L) (h2 : impl_SameRule.f k a0 a1 = some L) (h3 : laws_eqIntSS.f k L L = some true) (h4 : laws_markIntSS.f k L 1 = some (m, L2)) (h5 : laws_heldIntSS.f k L2 1 = some m) (h6 : 0 ≤ m) :
    Calls Try.prog 10 #[.int .i64 a0, .int .i64 a1] w fun e w' => e = .returned (.bool true) ∧ Below w.heap.size w w' := by
  have HB := Aside0.mk (Below.refl w.heap.size w)
  have b0 : decide (m < 0) = false := decide_eq_false (by omega)
  have b1 : (m != m) = false := by simp
  clear h6
  go_enter Try.func10, Try.ntmps10
  go_wp2_with (first
    | ((with_reducible refine gate_callee (f := 36) rfl ?_); refine goesL_ (some 12) rfl rfl Try.func36 (by kernel_rfl) rfl #[.int .i64 a0, .int .i64 a1] rfl (by (try simp only [List.map_toArray, List.map_cons, List.map_nil]); first | done | rfl) ?_; (with_reducible refine (spec_SameRule.calls k a0 a1 L _ h1).mono ?_); rintro e w1 ⟨v1, rfl, ho, hb⟩; refine ⟨_, rfl, ?_⟩; have HO1 := Aside0.mk (Kd.S_mono (ok' := fun k_ => k_ < w1.heap.size) (Kd.S_bound ho) (fun k_ hk => hk.2.2.1)); have n0_ := Aside0.mk (below_step HB.out hb); clear HB; have HB := n0_; clear n0_ ho hb; obtain ⟨A1, c1, eo1⟩ := Kd.S_slice HO1.out; subst eo1)
    | ((with_reducible refine gate_callee (f := 37) rfl ?_); refine goesL_ (some 15) rfl rfl Try.func37 (by kernel_rfl) rfl #[.int .i64 a0, .int .i64 a1] rfl (by (try simp only [List.map_toArray, List.map_cons, List.map_nil]); first | done | rfl) ?_; (with_reducible refine (impl_SameRule.calls k a0 a1 L _ h2).mono ?_); rintro e w2 ⟨v2, rfl, ho, hb⟩; refine ⟨_, rfl, ?_⟩; have n1_ := Aside0.mk (Kd.S_below HO1.out hb); have HO2 := Aside0.mk (Kd.S_lower (Kd.S_mono (ok' := fun k_ => w1.heap.size ≤ k_ ∧ k_ < w2.heap.size) (Kd.S_bound ho) (fun k_ hk => ⟨hk.2.1, hk.2.2.1⟩)) HB.out.size); have n0_ := Aside0.mk (below_step HB.out hb); clear HB HO1; have HB := n0_; have HO1 := n1_; clear n0_ n1_ ho hb; obtain ⟨A2, c2, eo2⟩ := Kd.S_slice HO2.out; subst eo2)
    | ((with_reducible refine gate_callee (f := 38) rfl ?_); refine goesL_ (some 18) rfl rfl Try.func38 (by kernel_rfl) rfl #[.slice A2 L.length c2, .slice A1 L.length c1] rfl (by (try simp only [List.map_toArray, List.map_cons, List.map_nil]); first | done | rfl) ?_; (with_reducible refine (laws_eqIntSS.calls k _ _ L _ _ L true _ ?side1 ?side2 ?side3 ?side4 h3).mono ?_); (case side1 => exact (Kd.S_reads' HO2.out).2.2); (case side2 => exact (Kd.S_reads' HO2.out).2.1); (case side3 => exact (Kd.S_reads' HO1.out).2.2); (case side4 => exact (Kd.S_reads' HO1.out).2.1); rintro e w3 ⟨rfl, nd, hw⟩; refine ⟨_, rfl, ?_⟩; have n0_ := Aside0.mk (pw_below_drewN HB.out nd); have n1_ := Aside0.mk (Kd.S_drewN HO1.out nd); have n2_ := Aside0.mk (Kd.S_drewN HO2.out nd); rw [← hw] at n0_ n1_ n2_; clear HB HO1 HO2; have HB := n0_; have HO1 := n1_; have HO2 := n2_; clear n0_ n1_ n2_ hw)
    | ((with_reducible refine gate_callee (f := 39) rfl ?_); refine goesL_ (some 22) rfl rfl Try.func39 (by kernel_rfl) rfl #[.slice A2 L.length c2, .int .i64 1] rfl (by (try simp only [List.map_toArray, List.map_cons, List.map_nil]); first | done | rfl) ?_; (with_reducible refine (laws_markIntSS.calls k (fun k_ => w1.heap.size ≤ k_ ∧ k_ < w2.heap.size) (.slice A2 L.length c2) L 1 m L2 w _ HB.out HO2.out h4).mono ?_); rintro e w4 ⟨rfl, hy, hb, hkp⟩; refine ⟨_, rfl, ?_⟩; have n1_ := Aside0.mk (Kd.S_kept HO1.out hkp (fun k_ hk hp => absurd hk (Nat.not_lt.mpr hp.1))); clear HB HO1 HO2; have HB := Aside0.mk hb; have HO1 := n1_; have HO2 := Aside0.mk hy; clear n1_ hy hb hkp)
    | ((with_reducible refine gate_callee (f := 40) rfl ?_); refine goesL_ (some 25) rfl rfl Try.func40 (by kernel_rfl) rfl #[.slice A2 L2.length c2, .int .i64 1] rfl (by (try simp only [List.map_toArray, List.map_cons, List.map_nil]); first | done | rfl | (rw [show L2.length = L.length from (Kd.S_reads' HO2.out).1.symm] <;> rfl)) ?_; (with_reducible refine (laws_heldIntSS.calls k _ _ L2 1 m _ ?side1 ?side2 h5).mono ?_); (case side1 => exact (Kd.S_reads' HO2.out).2.2); (case side2 => rw [show L2.length = L.length from (Kd.S_reads' HO2.out).1.symm]; exact (Kd.S_reads' HO2.out).2.1); rintro e w5 ⟨rfl, nd, hw⟩; refine ⟨_, rfl, ?_⟩; have n0_ := Aside0.mk (pw_below_drewN HB.out nd); have n1_ := Aside0.mk (Kd.S_drewN HO1.out nd); have n2_ := Aside0.mk (Kd.S_drewN HO2.out nd); rw [← hw] at n0_ n1_ n2_; clear HB HO1 HO2; have HB := n0_; have HO1 := n1_; have HO2 := n2_; clear n0_ n1_ n2_ hw)
    | ((with_reducible refine gate_callee (f := 37) rfl ?_); refine goesL_ (some 33) rfl rfl Try.func37 (by kernel_rfl) rfl #[.int .i64 a0, .int .i64 a1] rfl (by (try simp only [List.map_toArray, List.map_cons, List.map_nil]); first | done | rfl) ?_; (with_reducible refine (impl_SameRule.calls k a0 a1 L _ h2).mono ?_); rintro e w6 ⟨v3, rfl, ho, hb⟩; refine ⟨_, rfl, ?_⟩; have n1_ := Aside0.mk (Kd.S_below HO1.out hb); have n2_ := Aside0.mk (Kd.S_below HO2.out hb); have HO3 := Aside0.mk ho; have n0_ := Aside0.mk (below_step HB.out hb); clear HB HO1 HO2; have HB := n0_; have HO1 := n1_; have HO2 := n2_; clear n0_ n1_ n2_ ho hb; obtain ⟨A3, c3, eo3⟩ := Kd.S_slice HO3.out; subst eo3)
    | ((with_reducible refine gate_callee (f := 38) rfl ?_); refine goesL_ (some 36) rfl rfl Try.func38 (by kernel_rfl) rfl #[.slice A3 L.length c3, .slice A1 L.length c1] rfl (by (try simp only [List.map_toArray, List.map_cons, List.map_nil]); first | done | rfl) ?_; (with_reducible refine (laws_eqIntSS.calls k _ _ L _ _ L true _ ?side1 ?side2 ?side3 ?side4 h3).mono ?_); (case side1 => exact (Kd.S_reads' HO3.out).2.2); (case side2 => exact (Kd.S_reads' HO3.out).2.1); (case side3 => exact (Kd.S_reads' HO1.out).2.2); (case side4 => exact (Kd.S_reads' HO1.out).2.1); rintro e w7 ⟨rfl, nd, hw⟩; refine ⟨_, rfl, ?_⟩; have n0_ := Aside0.mk (pw_below_drewN HB.out nd); have n2_ := Aside0.mk (Kd.S_drewN HO2.out nd); rw [← hw] at n0_ n2_; clear HB HO1 HO2 HO3; have HB := n0_; have HO2 := n2_; clear n0_ n2_ hw)
    | ((with_reducible refine gate_callee (f := 40) rfl ?_); refine goesL_ (some 40) rfl rfl Try.func40 (by kernel_rfl) rfl #[.slice A2 L2.length c2, .int .i64 1] rfl (by (try simp only [List.map_toArray, List.map_cons, List.map_nil]); first | done | rfl | (rw [show L2.length = L.length from (Kd.S_reads' HO2.out).1.symm] <;> rfl)) ?_; (with_reducible refine (laws_heldIntSS.calls k _ _ L2 1 m _ ?side1 ?side2 h5).mono ?_); (case side1 => exact (Kd.S_reads' HO2.out).2.2); (case side2 => rw [show L2.length = L.length from (Kd.S_reads' HO2.out).1.symm]; exact (Kd.S_reads' HO2.out).2.1); rintro e w8 ⟨rfl, nd, hw⟩; refine ⟨_, rfl, ?_⟩; have n0_ := Aside0.mk (pw_below_drewN HB.out nd); rw [← hw] at n0_; clear HB; have HB := n0_; clear n0_ hw))
  go_ret
  exact ⟨by first | rfl | (simp; done) | (simp [*]; done), HB.out⟩
/-- What the law's calls answer. -/
def laws_FnExactSameRule.ok (k : Nat) (a0 a1 : Int) : Prop := ∃ (L L2 : List (List Int)) (m : Int), spec_SameRule.f k a0 a1 = some L ∧ impl_SameRule.f k a0 a1 = some L ∧ laws_eqIntSS.f k L L = some true ∧ laws_markIntSS.f k L 1 = some (m, L2) ∧ laws_heldIntSS.f k L2 1 = some m ∧ 0 ≤ m
theorem laws_FnExactSameRule.calls (k : Nat) (a0 : Int) (a1 : Int) (r : Bool) (w : World) (h : laws_FnExactSameRule.ok k a0 a1) :
    Calls Try.prog 10 #[.int .i64 a0, .int .i64 a1] w fun e w' => e = .returned (.bool true) ∧ Below w.heap.size w w' := by
  obtain ⟨L, L2, m, h1, h2, h3, h4, h5, h6⟩ := h
  exact laws_FnExactSameRule.good k a0 a1 L L2 m w h1 h2 h3 h4 h5 h6
end Go.Proofs.Ytieiflieppmboaa.PFnExactSameRule
