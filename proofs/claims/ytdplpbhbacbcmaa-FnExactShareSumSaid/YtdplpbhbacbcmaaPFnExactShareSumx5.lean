/- Lean functions for the Go functions that this law reaches, and proofs that the program comes to just their answers. No condition. (Laid by wip/gen/pprint.py over the kit's print.py.) -/
import Derived.Test.YtdplpbhbacbcmaaPlainC
import Derived.Lib.SliceRun
import Derived.Test.YtdplpbhbacbcmaaPlainC
import Derived.Test.YtdplpbhbacbcmaaClosureD
import Derived.Test.YtdplpbhbacbcmaaPFnExactShareSumx0
import Derived.Test.YtdplpbhbacbcmaaPFnExactShareSumx1
import Derived.Test.YtdplpbhbacbcmaaPFnExactShareSumx2
import Derived.Test.YtdplpbhbacbcmaaPFnExactShareSumx3
import Derived.Test.YtdplpbhbacbcmaaPFnExactShareSumx4
namespace Go.Proofs.Ytdplpbhbacbcmaa.PFnExactShareSum
open Go.RowKit Go.Proofs.YtdplpbhbacbcmaaW.PrintWords Go.Proofs.YtdplpbhbacbcmaaW.PrintLast Go.Proofs.YtdplpbhbacbcmaaW.PrintMore
attribute [local go_sem] max2_int min2_int max_two min_two max_three min_three max_four min_four   -- for this text's walks alone
set_option linter.unusedVariables false
set_option linter.unusedSimpArgs false

/-! ### impl_after: function 50 -/
def impl_after.l0 : Nat → List (List Int) → List Int → List Int → Int → Int → Option (List Int)
  | 0, _, _, _, _, _ => none
  | k + 1, x1, x7, x12, x13, x14 => if x14 < x13 then (if 0 ≤ x14 then (if x14 < (x12.length : Int) then (if 0 ≤ (rd x12 x14) then (if (rd x12 x14) < (x1.length : Int) then ((impl_added.f k x7 (rd_L1 x1 (rd x12 x14))).bind fun t184 => (impl_after.l0 k x1 t184 x12 x13 (wrap64 (x14 + 1)))) else (none)) else (none)) else (none)) else (none)) else (some x7)
def impl_after.f (k : Nat) (l0 : List Int) (l1 : List (List Int)) (l2 : List Int) : Option (List Int) := (slices_Clone_int_int.f l0).bind fun t179 => (impl_after.l0 k l1 t179 l2 (l2.length : Int) 0)
theorem impl_after.mono_l : ∀ k, (∀ y0 y1 y2 y3 y4, LeO (impl_after.l0 k y0 y1 y2 y3 y4) (impl_after.l0 (k + 1) y0 y1 y2 y3 y4))
  | 0 => fun _ _ _ _ _ r h => by simp [impl_after.l0] at h
  | k + 1 => by
    have ih0 := impl_after.mono_l k
    · intro y0 y1 y2 y3 y4
      unfold impl_after.l0
      repeat' first
      | (with_reducible exact ih0 _ _ _ _ _)
      | (with_reducible exact impl_added.mono _ _ _)
      | (with_reducible exact LeO.refl _)
      | (with_reducible exact LeO.none _)
      | (with_reducible refine LeO.ite ?_ ?_)
      | (with_reducible refine LeO.bind ?_ (fun _ => ?_))
      | exact ih0 _ _ _ _ _
      | exact impl_added.mono _ _ _
      | exact LeO.none _
      | refine LeO.ite ?_ ?_
      | refine LeO.bind ?_ (fun _ => ?_)
theorem impl_after.mono : ∀ a0 a1 a2 k, LeO (impl_after.f k a0 a1 a2) (impl_after.f (k + 1) a0 a1 a2) := by
  intro a0 a1 a2 k
  have ih0 := impl_after.mono_l k
  unfold impl_after.f
  repeat' first
      | (with_reducible exact ih0 _ _ _ _ _)
      | (with_reducible exact impl_added.mono _ _ _)
      | (with_reducible exact LeO.refl _)
      | (with_reducible exact LeO.none _)
      | (with_reducible refine LeO.ite ?_ ?_)
      | (with_reducible refine LeO.bind ?_ (fun _ => ?_))
      | exact ih0 _ _ _ _ _
      | exact impl_added.mono _ _ _
      | exact LeO.none _
      | refine LeO.ite ?_ ?_
      | refine LeO.bind ?_ (fun _ => ?_)
set_option maxHeartbeats 8000000 in
set_option maxRecDepth 100000 in
theorem impl_after.calls (k : Nat) (A0 : Option Addr) (c0 : Nat) (l0 : List Int) (A1 : Option Addr) (c1 : Nat) (l1 : List (List Int)) (A2 : Option Addr) (c2 : Nat) (l2 : List Int) (r : List Int) (w : World) (hr0 : Kd.C (Kd.int .i64) w A0 l0.length l0) (hc0 : l0.length ≤ c0) (hr1 : Kd.C (Kd.slice 3 (Kd.int .i64)) w A1 l1.length l1) (hc1 : l1.length ≤ c1) (hr2 : Kd.C (Kd.int .i64) w A2 l2.length l2) (hc2 : l2.length ≤ c2) (h : impl_after.f k l0 l1 l2 = some r) :
    Calls Try.prog 50 #[.slice A0 l0.length c0, .slice A1 l1.length c1, .slice A2 l2.length c2] w fun e w' => ∃ v0_ : Value, e = .returned (v0_) ∧ Kd.R (Kd.int .i64) 3 w' w.heap.size (fun _ => True) v0_ r ∧ Below w.heap.size w w' := by
  have HR0 := Aside0.mk hr0
  have HC0 := Aside0.mk hc0
  clear hr0 hc0
  have HR1 := Aside0.mk hr1
  have HC1 := Aside0.mk hc1
  clear hr1 hc1
  have HR2 := Aside0.mk hr2
  have HC2 := Aside0.mk hc2
  clear hr2 hc2
  have HB := Aside0.mk (Below.refl w.heap.size w)
  have H : ((slices_Clone_int_int.f l0).bind fun t179 => (impl_after.l0 k l1 t179 l2 (l2.length : Int) 0)) = some r := h
  clear h
  replace H := Option.bind_eq_some_iff.mp H
  obtain ⟨t179, A40, H⟩ := H
  replace H : (impl_after.l0 k l1 t179 l2 (l2.length : Int) 0) = some r := H
  have A4 := Aside0.mk A40
  clear A40
  have H' := Aside0.mk H
  clear H
  go_enter Try.func50, Try.ntmps50
  go_wp2_with (first | ((with_reducible refine gate_callee (f := 81) rfl ?_); refine goesL_ (some 11) rfl rfl Try.func81 (by kernel_rfl) rfl #[.slice A0 l0.length c0] rfl (by (try simp only [List.map_toArray, List.map_cons, List.map_nil]); first | done | rfl | (simp only [List.length_drop, List.length_take]; rfl)) ?_; (with_reducible refine (slices_Clone_int_int.calls _ _ l0 t179 _ ?side1 ?side2 A4.out).mono ?_); (case side1 => repeat (first | exact HR0.out | (with_reducible refine Kd.C_alloc ?_ _) | (with_reducible refine Kd.C_drewN ?_ _) | (with_reducible refine Kd.C_drew ?_))); (case side2 => exact HC0.out); rintro e w5 ⟨v180, rfl, ho0, hb⟩; refine ⟨_, rfl, ?_⟩; have n0_ := Aside0.mk (Kd.R_lower ho0 (below_size (by repeat (first | (with_reducible first | exact HB.out | apply below_alloc | apply pw_below_drewN | apply below_drew1) | exact HB.out)))); have n1_ := Aside0.mk (below_step (by repeat (first | (with_reducible first | exact HB.out | apply below_alloc | apply pw_below_drewN | apply below_drew1) | exact HB.out)) hb); clear HB; have HO181 := n0_; have HB := n1_; clear n0_ n1_; (try clear hb); (try clear hb2); (try clear hk); (try clear hi); (try clear ho0)))
  go_loopg [7, 14] k (fun kq v7 v14 w' => ∃ (x7_1 : List Int) (x14_1 : Int), v14 = .int .i64 x14_1 ∧ Aside0 (impl_after.l0 kq l1 x7_1 l2 (l2.length : Int) x14_1 = some r) ∧ Aside0 (kq ≤ k) ∧ Aside0 (Kd.R (Kd.int .i64) 3 w' w.heap.size (fun _ => True) v7 x7_1) ∧ Aside0 (Below w.heap.size w w'))
  case atStart => exact ⟨(t179), (0), (by first | rfl | (simp; done) | (simp [*]; done)), H', ⟨Nat.le_refl _⟩, ⟨by (with_reducible repeat (first | apply Kd.R_alloc | apply Kd.R_drewN | apply Kd.R_drew)); exact HO181.out⟩, ⟨by repeat (first | (with_reducible first | exact HB.out | apply below_alloc | apply pw_below_drewN | apply below_drew1) | exact HB.out)⟩⟩
  case round =>
    clear H'
    try clear c1
    try clear c2
    try clear p2
    try clear c5
    obtain ⟨x7_1, x14_1, rfl, HA, HK1, HO_7, HB⟩ := hrel
    cases gk with
    | zero => exact absurd HA.out (by simp [impl_after.l0])
    | succ k1 =>
      have H := HA.out
      clear HA
      simp only [impl_after.l0] at H
      by_cases c6 : x14_1 < (l2.length : Int)
      · rw [if_pos c6] at H
        have c6b0 : decide (x14_1 < (l2.length : Int)) = true := decide_eq_true c6
        clear c6
        by_cases c7 : 0 ≤ x14_1
        · rw [if_pos c7] at H
          have c7b0 : decide (0 ≤ x14_1) = true := decide_eq_true c7
          clear c7
          by_cases c8 : x14_1 < (l2.length : Int)
          · rw [if_pos c8] at H
            have c8b0 : decide (x14_1 < (l2.length : Int)) = true := decide_eq_true c8
            clear c8
            by_cases c9 : 0 ≤ (rd l2 x14_1)
            · rw [if_pos c9] at H
              have c9b0 : decide (0 ≤ (rd l2 x14_1)) = true := decide_eq_true c9
              clear c9
              by_cases c10 : (rd l2 x14_1) < (l1.length : Int)
              · rw [if_pos c10] at H
                have c10b0 : decide ((rd l2 x14_1) < (l1.length : Int)) = true := decide_eq_true c10
                clear c10
                replace H := Option.bind_eq_some_iff.mp H
                obtain ⟨t184, A110, H⟩ := H
                replace H : (impl_after.l0 k1 l1 t184 l2 (l2.length : Int) (wrap64 (x14_1 + 1))) = some r := H
                have A11 := Aside0.mk A110
                clear A110
                have H' := Aside0.mk H
                clear H
                have p182 : 0 ≤ (x14_1 : Int) := of_decide_eq_true (by first | (with_reducible assumption) | assumption)
                have q182 : x14_1 < (l2.length : Int) := of_decide_eq_true (by first | (with_reducible assumption) | assumption)
                obtain ⟨ad182, e182, hx182_0⟩ := Kd.at_int HR2.out x14_1 p182 q182
                cases e182
                replace hx182_0 := (HB.out.cell (World.block_lt_of_cell? w _ hx182_0)).trans hx182_0
                replace p182 := eq_true p182
                replace q182 := eq_true q182
                have p183 : 0 ≤ ((rd l2 x14_1) : Int) := of_decide_eq_true (by first | (with_reducible assumption) | assumption)
                have q183 : (rd l2 x14_1) < (l1.length : Int) := of_decide_eq_true (by first | (with_reducible assumption) | assumption)
                obtain ⟨ad183, A183_0, c183_0, e183, hx183_0, hl183_0, hi183_0⟩ := at_L1 HR1.out (rd l2 x14_1) p183 q183
                cases e183
                replace hx183_0 := (HB.out.cell (World.block_lt_of_cell? w _ hx183_0)).trans hx183_0
                have HR183_0 := Aside0.mk hi183_0
                have HC183_0 := Aside0.mk hl183_0
                clear hi183_0 hl183_0
                replace p183 := eq_true p183
                replace q183 := eq_true q183
                obtain ⟨Ao12, co12, eo12⟩ := Kd.R_slice HO_7.out
                subst eo12
                go_wp2_with (first | ((with_reducible refine gate_callee (f := 82) rfl ?_); refine goesL_ (some 23) rfl rfl Try.func82 (by kernel_rfl) rfl #[.slice Ao12 x7_1.length co12, .slice A183_0 (rd_L1 l1 (rd l2 x14_1)).length c183_0] rfl (by (try simp only [List.map_toArray, List.map_cons, List.map_nil]); first | done | rfl | (simp only [List.length_drop, List.length_take]; rfl)) ?_; (with_reducible refine (impl_added.calls k1 _ _ x7_1 _ _ (rd_L1 l1 (rd l2 x14_1)) t184 _ ?side1 ?side2 ?side3 ?side4 A11.out).mono ?_); (case side1 => repeat (first | exact (Kd.R_reads' HO_7.out).2.2 | (with_reducible refine Kd.C_alloc ?_ _) | (with_reducible refine Kd.C_drewN ?_ _) | (with_reducible refine Kd.C_drew ?_))); (case side2 => exact (Kd.R_reads' HO_7.out).2.1); (case side3 => repeat (first | exact (Kd.C_below HR183_0.out HB.out) | (with_reducible refine Kd.C_alloc ?_ _) | (with_reducible refine Kd.C_drewN ?_ _) | (with_reducible refine Kd.C_drew ?_))); (case side4 => exact HC183_0.out); rintro e w13 ⟨v185, rfl, ho0, hb⟩; refine ⟨_, rfl, ?_⟩; have n0_ := Aside0.mk (Kd.R_elder' (by (with_reducible repeat (first | apply Kd.R_alloc | apply Kd.R_drewN | apply Kd.R_drew)); exact HO_7.out) (Kd.R_base ho0) hb); have n1_ := Aside0.mk (Kd.R_lower (Kd.R_new' ho0 (Kd.R_lt (by (with_reducible repeat (first | apply Kd.R_alloc | apply Kd.R_drewN | apply Kd.R_drew)); exact HO_7.out))) (below_size (by repeat (first | (with_reducible first | exact HB.out | apply below_alloc | apply pw_below_drewN | apply below_drew1) | exact HB.out)))); have n2_ := Aside0.mk (below_step (by repeat (first | (with_reducible first | exact HB.out | apply below_alloc | apply pw_below_drewN | apply below_drew1) | exact HB.out)) hb); clear HO_7; clear HB; have HO_7 := n0_; have HO186 := n1_; have HB := n2_; clear n0_ n1_ n2_; (try clear hb); (try clear hb2); (try clear hk); (try clear hi); (try clear ho0)))
                go_roundg k1
                case measure => have := HK1.out; omega
                case rel => exact ⟨(t184), (wrap64 (x14_1 + 1)), (by first | rfl | (simp; done) | (simp [*]; done)), H', ⟨by have := HK1.out; omega⟩, ⟨by (with_reducible repeat (first | apply Kd.R_alloc | apply Kd.R_drewN | apply Kd.R_drew)); exact Kd.R_mono HO186.out (fun _ hk => trivial)⟩, ⟨by repeat (first | (with_reducible first | exact HB.out | apply below_alloc | apply pw_below_drewN | apply below_drew1) | exact HB.out)⟩⟩
              · rw [if_neg c10] at H
                exact absurd H (by simp)
            · rw [if_neg c9] at H
              exact absurd H (by simp)
          · rw [if_neg c8] at H
            exact absurd H (by simp)
        · rw [if_neg c7] at H
          exact absurd H (by simp)
      · rw [if_neg c6] at H
        have c6b0 : decide (x14_1 < (l2.length : Int)) = false := decide_eq_false c6
        clear c6
        obtain rfl := Option.some.inj H
        go_wp2
        go_ret
        exact ⟨_, by first | rfl | (simp [errW_none, errW_some] <;> rfl) | (simp [*, errW_none, errW_some] <;> rfl), by (with_reducible repeat (first | apply Kd.R_alloc | apply Kd.R_drewN | apply Kd.R_drew)); exact HO_7.out, by repeat (first | (with_reducible first | exact HB.out | apply below_alloc | apply pw_below_drewN | apply below_drew1) | exact HB.out)⟩

/-! ### impl_ruleWays: function 49 -/
def impl_ruleWays.l0 : Nat → List Int → List (List Int) → List Int → Int → List Int → Int → Int → Option (Int)
  | 0, _, _, _, _, _, _, _ => none
  | k + 1, x0, x1, x2, x7, x10, x11, x12 => if x12 < x11 then (if 0 ≤ x12 then (if x12 < (x10.length : Int) then (if x12 ≤ (x2.length : Int) then ((impl_after.f k x0 x1 (x2.take (x12 : Int).toNat)).bind fun t189 => (if 0 ≤ (rd x10 x12) then (if (rd x10 x12) < (t189.length : Int) then (if (wrap64 (x7 * (mx 0 (rd t189 (rd x10 x12))))) = 0 then (some 0) else (impl_ruleWays.l0 k x0 x1 x2 (wrap64 (x7 * (mx 0 (rd t189 (rd x10 x12))))) x10 x11 (wrap64 (x12 + 1)))) else (none)) else (none))) else (none)) else (none)) else (none)) else (some x7)
def impl_ruleWays.f (k : Nat) (l0 : List Int) (l1 : List (List Int)) (l2 : List Int) : Option (Int) := impl_ruleWays.l0 k l0 l1 l2 1 l2 (l2.length : Int) 0
theorem impl_ruleWays.mono_l : ∀ k, (∀ y0 y1 y2 y3 y4 y5 y6, LeO (impl_ruleWays.l0 k y0 y1 y2 y3 y4 y5 y6) (impl_ruleWays.l0 (k + 1) y0 y1 y2 y3 y4 y5 y6))
  | 0 => fun _ _ _ _ _ _ _ r h => by simp [impl_ruleWays.l0] at h
  | k + 1 => by
    have ih0 := impl_ruleWays.mono_l k
    · intro y0 y1 y2 y3 y4 y5 y6
      unfold impl_ruleWays.l0
      repeat' first
      | (with_reducible exact ih0 _ _ _ _ _ _ _)
      | (with_reducible exact impl_after.mono _ _ _ _)
      | (with_reducible exact LeO.refl _)
      | (with_reducible exact LeO.none _)
      | (with_reducible refine LeO.ite ?_ ?_)
      | (with_reducible refine LeO.bind ?_ (fun _ => ?_))
      | exact ih0 _ _ _ _ _ _ _
      | exact impl_after.mono _ _ _ _
      | exact LeO.none _
      | refine LeO.ite ?_ ?_
      | refine LeO.bind ?_ (fun _ => ?_)
theorem impl_ruleWays.mono : ∀ a0 a1 a2 k, LeO (impl_ruleWays.f k a0 a1 a2) (impl_ruleWays.f (k + 1) a0 a1 a2) := by
  intro a0 a1 a2 k
  have ih0 := impl_ruleWays.mono_l k
  unfold impl_ruleWays.f
  repeat' first
      | (with_reducible exact ih0 _ _ _ _ _ _ _)
      | (with_reducible exact impl_after.mono _ _ _ _)
      | (with_reducible exact LeO.refl _)
      | (with_reducible exact LeO.none _)
      | (with_reducible refine LeO.ite ?_ ?_)
      | (with_reducible refine LeO.bind ?_ (fun _ => ?_))
      | exact ih0 _ _ _ _ _ _ _
      | exact impl_after.mono _ _ _ _
      | exact LeO.none _
      | refine LeO.ite ?_ ?_
      | refine LeO.bind ?_ (fun _ => ?_)
set_option maxHeartbeats 8000000 in
set_option maxRecDepth 100000 in
theorem impl_ruleWays.calls (k : Nat) (A0 : Option Addr) (c0 : Nat) (l0 : List Int) (A1 : Option Addr) (c1 : Nat) (l1 : List (List Int)) (A2 : Option Addr) (c2 : Nat) (l2 : List Int) (r : Int) (w : World) (hr0 : Kd.C (Kd.int .i64) w A0 l0.length l0) (hc0 : l0.length ≤ c0) (hr1 : Kd.C (Kd.slice 3 (Kd.int .i64)) w A1 l1.length l1) (hc1 : l1.length ≤ c1) (hr2 : Kd.C (Kd.int .i64) w A2 l2.length l2) (hc2 : l2.length ≤ c2) (h : impl_ruleWays.f k l0 l1 l2 = some r) :
    Calls Try.prog 49 #[.slice A0 l0.length c0, .slice A1 l1.length c1, .slice A2 l2.length c2] w fun e w' => e = .returned (.int .i64 r) ∧ Below w.heap.size w w' := by
  have HR0 := Aside0.mk hr0
  have HC0 := Aside0.mk hc0
  clear hr0 hc0
  have HR1 := Aside0.mk hr1
  have HC1 := Aside0.mk hc1
  clear hr1 hc1
  have HR2 := Aside0.mk hr2
  have HC2 := Aside0.mk hc2
  clear hr2 hc2
  have HB := Aside0.mk (Below.refl w.heap.size w)
  have H : (impl_ruleWays.l0 k l0 l1 l2 1 l2 (l2.length : Int) 0) = some r := h
  clear h
  have H' := Aside0.mk H
  clear H
  go_enter Try.func49, Try.ntmps49
  go_wp2
  go_loopg [7, 12] k (fun kq v7 v12 w' => ∃ (x7_1 : Int) (x12_1 : Int), v7 = .int .i64 x7_1 ∧ v12 = .int .i64 x12_1 ∧ Aside0 (impl_ruleWays.l0 kq l0 l1 l2 x7_1 l2 (l2.length : Int) x12_1 = some r) ∧ Aside0 (kq ≤ k) ∧ Aside0 (Below w.heap.size w w'))
  case atStart => exact ⟨(1), (0), (by first | rfl | (simp; done) | (simp [*]; done)), (by first | rfl | (simp; done) | (simp [*]; done)), H', ⟨Nat.le_refl _⟩, ⟨by repeat (first | (with_reducible first | exact HB.out | apply below_alloc | apply pw_below_drewN | apply below_drew1) | exact HB.out)⟩⟩
  case round =>
    clear H'
    try clear c1
    try clear c2
    try clear p2
    obtain ⟨x7_1, x12_1, rfl, rfl, HA, HK1, HB⟩ := hrel
    cases gk with
    | zero => exact absurd HA.out (by simp [impl_ruleWays.l0])
    | succ k1 =>
      have H := HA.out
      clear HA
      simp only [impl_ruleWays.l0] at H
      by_cases c4 : x12_1 < (l2.length : Int)
      · rw [if_pos c4] at H
        have c4b0 : decide (x12_1 < (l2.length : Int)) = true := decide_eq_true c4
        clear c4
        by_cases c5 : 0 ≤ x12_1
        · rw [if_pos c5] at H
          have c5b0 : decide (0 ≤ x12_1) = true := decide_eq_true c5
          clear c5
          by_cases c6 : x12_1 < (l2.length : Int)
          · rw [if_pos c6] at H
            have c6b0 : decide (x12_1 < (l2.length : Int)) = true := decide_eq_true c6
            clear c6
            have c7b0 := eq_true (of_decide_eq_true (by first | (with_reducible assumption) | assumption) : 0 ≤ x12_1)
            by_cases c8 : x12_1 ≤ (l2.length : Int)
            · rw [if_pos c8] at H
              have c8b0 := eq_true c8
              have c8b1 : decide (x12_1 ≤ (l2.length : Int)) = true := decide_eq_true c8
              clear c8
              replace H := Option.bind_eq_some_iff.mp H
              obtain ⟨t189, A90, H⟩ := H
              replace H : (if 0 ≤ (rd l2 x12_1) then (if (rd l2 x12_1) < (t189.length : Int) then (if (wrap64 (x7_1 * (mx 0 (rd t189 (rd l2 x12_1))))) = 0 then (some 0) else (impl_ruleWays.l0 k1 l0 l1 l2 (wrap64 (x7_1 * (mx 0 (rd t189 (rd l2 x12_1))))) l2 (l2.length : Int) (wrap64 (x12_1 + 1)))) else (none)) else (none)) = some r := H
              have A9 := Aside0.mk A90
              clear A90
              by_cases c10 : 0 ≤ (rd l2 x12_1)
              · rw [if_pos c10] at H
                have c10b0 : decide (0 ≤ (rd l2 x12_1)) = true := decide_eq_true c10
                clear c10
                by_cases c11 : (rd l2 x12_1) < (t189.length : Int)
                · rw [if_pos c11] at H
                  have c11b0 : decide ((rd l2 x12_1) < (t189.length : Int)) = true := decide_eq_true c11
                  clear c11
                  obtain ⟨ji12, hji12⟩ : ∃ j_ : Int, (mx 0 (rd t189 (rd l2 x12_1))) = j_ := ⟨_, rfl⟩
                  replace H : (if (wrap64 (x7_1 * (ji12))) = 0 then (some 0) else (impl_ruleWays.l0 k1 l0 l1 l2 (wrap64 (x7_1 * (ji12))) l2 (l2.length : Int) (wrap64 (x12_1 + 1)))) = some r := by first | (rw [hji12] at H; exact H) | (simp only [hji12] at H ⊢; exact H)
                  (try rw [hji12] at A9)
                  have hji12_ : (if 0 < (rd t189 (rd l2 x12_1)) then (rd t189 (rd l2 x12_1)) else 0) = ji12 := hji12
                  by_cases c13 : (wrap64 (x7_1 * (ji12))) = 0
                  · rw [if_pos c13] at H
                    have c13b0 : ((wrap64 (x7_1 * (ji12))) == 0) = true := beq_iff_eq.mpr c13
                    have c13b1 : ((wrap64 (x7_1 * (ji12))) != 0) = false := bne_eq_false_iff_eq.mpr c13
                    clear c13
                    obtain rfl := Option.some.inj H
                    have p187 : 0 ≤ (x12_1 : Int) := of_decide_eq_true (by first | (with_reducible assumption) | assumption)
                    have q187 : x12_1 < (l2.length : Int) := of_decide_eq_true (by first | (with_reducible assumption) | assumption)
                    obtain ⟨ad187, e187, hx187_0⟩ := Kd.at_int HR2.out x12_1 p187 q187
                    cases e187
                    replace hx187_0 := (HB.out.cell (World.block_lt_of_cell? w _ hx187_0)).trans hx187_0
                    replace p187 := eq_true p187
                    replace q187 := eq_true q187
                    obtain ⟨i014, hi014, _, hsz14, _⟩ := info_parts info3
                    obtain ⟨hcut14, hA14, hC14⟩ := print_take_of (P := Try.prog) (Value.int .i64) 0 23 3 .i64 Try.underlying23 hi014 hsz14 (some ad187) c2 l2 x12_1 (of_decide_eq_true (by first | (with_reducible assumption) | assumption)) (of_decide_eq_true (by first | (with_reducible assumption) | assumption)) HC2.out
                    have HR188 := Aside0.mk (Kd.C_of_reads (h1 := fun _ => rfl) (hA14 _ (Kd.reads_of_C HR2.out)))
                    have HC188 := Aside0.mk hC14
                    clear hA14 hC14 hi014 hsz14
                    go_wp2_with (first | ((with_reducible refine gate_callee (f := 50) rfl ?_); refine goesL_ (some 23) rfl rfl Try.func50 (by kernel_rfl) rfl #[.slice A0 l0.length c0, .slice A1 l1.length c1, .slice (some ad187) (l2.take (x12_1 : Int).toNat).length c2] rfl (by (try simp only [List.map_toArray, List.map_cons, List.map_nil]); first | done | (rw [show (l2.take (x12_1 : Int).toNat).length = x12_1.toNat from (by rw [List.length_take]; have h_ : (x12_1 : Int) ≤ (l2.length : Int) := of_decide_eq_true (by first | (with_reducible assumption) | assumption); omega)] <;> rfl) | rfl | (simp only [List.length_drop, List.length_take]; rfl)) ?_; (with_reducible refine (impl_after.calls k1 _ _ l0 _ _ l1 _ _ (l2.take (x12_1 : Int).toNat) t189 _ ?side1 ?side2 ?side3 ?side4 ?side5 ?side6 A9.out).mono ?_); (case side1 => repeat (first | exact (Kd.C_below HR0.out HB.out) | (with_reducible refine Kd.C_alloc ?_ _) | (with_reducible refine Kd.C_drewN ?_ _) | (with_reducible refine Kd.C_drew ?_))); (case side2 => exact HC0.out); (case side3 => repeat (first | exact (Kd.C_below HR1.out HB.out) | (with_reducible refine Kd.C_alloc ?_ _) | (with_reducible refine Kd.C_drewN ?_ _) | (with_reducible refine Kd.C_drew ?_))); (case side4 => exact HC1.out); (case side5 => repeat (first | exact (Kd.C_below HR188.out HB.out) | (with_reducible refine Kd.C_alloc ?_ _) | (with_reducible refine Kd.C_drewN ?_ _) | (with_reducible refine Kd.C_drew ?_))); (case side6 => exact HC188.out); rintro e w15 ⟨v190, rfl, ho0, hb⟩; refine ⟨_, rfl, ?_⟩; have n0_ := Aside0.mk (Kd.R_lower ho0 (below_size (by repeat (first | (with_reducible first | exact HB.out | apply below_alloc | apply pw_below_drewN | apply below_drew1) | exact HB.out)))); have n1_ := Aside0.mk (below_step (by repeat (first | (with_reducible first | exact HB.out | apply below_alloc | apply pw_below_drewN | apply below_drew1) | exact HB.out)) hb); clear HB; have HO191 := n0_; have HB := n1_; clear n0_ n1_; (try clear hb); (try clear hb2); (try clear hk); (try clear hi); (try clear ho0); obtain ⟨Ao16, co16, eo16⟩ := Kd.R_slice HO191.out; subst eo16; have p192 : 0 ≤ ((rd l2 x12_1) : Int) := of_decide_eq_true (by first | (with_reducible assumption) | assumption); have q192 : (rd l2 x12_1) < (t189.length : Int) := of_decide_eq_true (by first | (with_reducible assumption) | assumption); obtain ⟨ad192, e192, hx192_0⟩ := Kd.at_int (Kd.R_reads' HO191.out).2.2 (rd l2 x12_1) p192 q192; cases e192; replace p192 := eq_true p192; replace q192 := eq_true q192))
                    go_ret
                    exact ⟨by first | rfl | (simp [errW_none, errW_some] <;> rfl) | (simp only [← hji12]; first | rfl | (simp [errW_none, errW_some] <;> rfl)) | (simp [*, errW_none, errW_some] <;> rfl), by repeat (first | (with_reducible first | exact HB.out | apply below_alloc | apply pw_below_drewN | apply below_drew1) | exact HB.out)⟩
                  · rw [if_neg c13] at H
                    have c13b0 : ((wrap64 (x7_1 * (ji12))) == 0) = false := beq_eq_false_iff_ne.mpr c13
                    have c13b1 : ((wrap64 (x7_1 * (ji12))) != 0) = true := bne_iff_ne.mpr c13
                    have H' := Aside0.mk H
                    clear H
                    have p187 : 0 ≤ (x12_1 : Int) := of_decide_eq_true (by first | (with_reducible assumption) | assumption)
                    have q187 : x12_1 < (l2.length : Int) := of_decide_eq_true (by first | (with_reducible assumption) | assumption)
                    obtain ⟨ad187, e187, hx187_0⟩ := Kd.at_int HR2.out x12_1 p187 q187
                    cases e187
                    replace hx187_0 := (HB.out.cell (World.block_lt_of_cell? w _ hx187_0)).trans hx187_0
                    replace p187 := eq_true p187
                    replace q187 := eq_true q187
                    obtain ⟨i017, hi017, _, hsz17, _⟩ := info_parts info3
                    obtain ⟨hcut17, hA17, hC17⟩ := print_take_of (P := Try.prog) (Value.int .i64) 0 23 3 .i64 Try.underlying23 hi017 hsz17 (some ad187) c2 l2 x12_1 (of_decide_eq_true (by first | (with_reducible assumption) | assumption)) (of_decide_eq_true (by first | (with_reducible assumption) | assumption)) HC2.out
                    have HR188 := Aside0.mk (Kd.C_of_reads (h1 := fun _ => rfl) (hA17 _ (Kd.reads_of_C HR2.out)))
                    have HC188 := Aside0.mk hC17
                    clear hA17 hC17 hi017 hsz17
                    go_wp2_with (first | ((with_reducible refine gate_callee (f := 50) rfl ?_); refine goesL_ (some 23) rfl rfl Try.func50 (by kernel_rfl) rfl #[.slice A0 l0.length c0, .slice A1 l1.length c1, .slice (some ad187) (l2.take (x12_1 : Int).toNat).length c2] rfl (by (try simp only [List.map_toArray, List.map_cons, List.map_nil]); first | done | (rw [show (l2.take (x12_1 : Int).toNat).length = x12_1.toNat from (by rw [List.length_take]; have h_ : (x12_1 : Int) ≤ (l2.length : Int) := of_decide_eq_true (by first | (with_reducible assumption) | assumption); omega)] <;> rfl) | rfl | (simp only [List.length_drop, List.length_take]; rfl)) ?_; (with_reducible refine (impl_after.calls k1 _ _ l0 _ _ l1 _ _ (l2.take (x12_1 : Int).toNat) t189 _ ?side1 ?side2 ?side3 ?side4 ?side5 ?side6 A9.out).mono ?_); (case side1 => repeat (first | exact (Kd.C_below HR0.out HB.out) | (with_reducible refine Kd.C_alloc ?_ _) | (with_reducible refine Kd.C_drewN ?_ _) | (with_reducible refine Kd.C_drew ?_))); (case side2 => exact HC0.out); (case side3 => repeat (first | exact (Kd.C_below HR1.out HB.out) | (with_reducible refine Kd.C_alloc ?_ _) | (with_reducible refine Kd.C_drewN ?_ _) | (with_reducible refine Kd.C_drew ?_))); (case side4 => exact HC1.out); (case side5 => repeat (first | exact (Kd.C_below HR188.out HB.out) | (with_reducible refine Kd.C_alloc ?_ _) | (with_reducible refine Kd.C_drewN ?_ _) | (with_reducible refine Kd.C_drew ?_))); (case side6 => exact HC188.out); rintro e w18 ⟨v190, rfl, ho0, hb⟩; refine ⟨_, rfl, ?_⟩; have n0_ := Aside0.mk (Kd.R_lower ho0 (below_size (by repeat (first | (with_reducible first | exact HB.out | apply below_alloc | apply pw_below_drewN | apply below_drew1) | exact HB.out)))); have n1_ := Aside0.mk (below_step (by repeat (first | (with_reducible first | exact HB.out | apply below_alloc | apply pw_below_drewN | apply below_drew1) | exact HB.out)) hb); clear HB; have HO191 := n0_; have HB := n1_; clear n0_ n1_; (try clear hb); (try clear hb2); (try clear hk); (try clear hi); (try clear ho0); obtain ⟨Ao19, co19, eo19⟩ := Kd.R_slice HO191.out; subst eo19; have p192 : 0 ≤ ((rd l2 x12_1) : Int) := of_decide_eq_true (by first | (with_reducible assumption) | assumption); have q192 : (rd l2 x12_1) < (t189.length : Int) := of_decide_eq_true (by first | (with_reducible assumption) | assumption); obtain ⟨ad192, e192, hx192_0⟩ := Kd.at_int (Kd.R_reads' HO191.out).2.2 (rd l2 x12_1) p192 q192; cases e192; replace p192 := eq_true p192; replace q192 := eq_true q192))
                    go_roundg k1
                    case measure => have := HK1.out; omega
                    case rel => exact ⟨(wrap64 (x7_1 * (ji12))), (wrap64 (x12_1 + 1)), (by first | rfl | (simp; done) | (simp only [← hji12] <;> (first | rfl | simp)) | (simp [*]; done)), (by first | rfl | (simp; done) | (simp [*]; done)), H', ⟨by have := HK1.out; omega⟩, ⟨by repeat (first | (with_reducible first | exact HB.out | apply below_alloc | apply pw_below_drewN | apply below_drew1) | exact HB.out)⟩⟩
                · rw [if_neg c11] at H
                  exact absurd H (by simp)
              · rw [if_neg c10] at H
                exact absurd H (by simp)
            · rw [if_neg c8] at H
              exact absurd H (by simp)
          · rw [if_neg c6] at H
            exact absurd H (by simp)
        · rw [if_neg c5] at H
          exact absurd H (by simp)
      · rw [if_neg c4] at H
        have c4b0 : decide (x12_1 < (l2.length : Int)) = false := decide_eq_false c4
        clear c4
        obtain rfl := Option.some.inj H
        go_wp2
        go_ret
        exact ⟨by first | rfl | (simp [errW_none, errW_some] <;> rfl) | (simp [*, errW_none, errW_some] <;> rfl), by repeat (first | (with_reducible first | exact HB.out | apply below_alloc | apply pw_below_drewN | apply below_drew1) | exact HB.out)⟩

-- NOT PRINTED: function 48 (impl_BallSum_1)

/-! ### impl_BallSum: function 14 (my own proof) -/
namespace AuxBallSum
open Go.Proofs.Ytdplpbhbacbcmaa.Plain
theorem coloursOk_f (x : Int) : impl_coloursOk.f x = some (colB x) := by
  unfold impl_coloursOk.f colB
  by_cases h : x ≥ 1
  · rw [if_pos h]; congr 1; simp [h]
  · rw [if_neg h]; congr 1; simp; omega

theorem implUrnOk_loop (l : List Int) (hl : l.length ≤ 1000000000) (d : Nat) : ∀ i : Nat, i + d = l.length → Ev (fun k => impl_UrnOk.l0 k l l (l.length : Int) (i : Int)) ((l.drop i).all urnE && colB l.length) := by
  induction d with
  | zero =>
    intro i hi
    refine Ev.step (fun _ => rfl) ?_
    refine ev_neg (by omega) ?_
    rw [coloursOk_f, List.drop_eq_nil_of_le (by omega)]
    exact Ev.now _
  | succ d ih =>
    intro i hi
    refine Ev.step (fun _ => rfl) ?_
    refine ev_pos (by omega) (ev_pos (by omega) (ev_pos (by omega) ?_))
    rw [drop_rd l i (by omega), List.all_cons]
    by_cases h1 : rd l (i : Int) < 0
    · refine ev_pos h1 (ev_eq (Ev.now _) ?_)
      rw [show urnE (rd l (i : Int)) = false from by simp [urnE]; omega]; rfl
    · refine ev_neg h1 ?_
      by_cases h2 : rd l (i : Int) > 40
      · refine ev_pos h2 (ev_eq (Ev.now _) ?_)
        rw [show urnE (rd l (i : Int)) = false from by simp [urnE]; omega]; rfl
      · refine ev_neg h2 ?_
        rw [w64n i (by omega), show urnE (rd l (i : Int)) = true from by simp [urnE]; omega, Bool.true_and]
        exact ih (i + 1) (by omega)
theorem implUrnOk_ev (l : List Int) (hl : l.length ≤ 1000000000) : Ev (fun k => impl_UrnOk.f k l) (urnB l) := by
  unfold impl_UrnOk.f
  exact implUrnOk_loop l hl l.length 0 (by omega)

theorem implStartOk_loop (l : List Int) (hl : l.length ≤ 1000000000) (d : Nat) : ∀ i : Nat, i + d = l.length → Ev (fun k => impl_StartOk.l0 k l l (l.length : Int) (i : Int)) ((l.drop i).all (fun x => decide (x ≤ 10)) && urnB l) := by
  induction d with
  | zero =>
    intro i hi
    refine Ev.step (fun _ => rfl) ?_
    refine ev_neg (by omega) ?_
    rw [List.drop_eq_nil_of_le (by omega)]
    exact Ev.bind (implUrnOk_ev l hl) (Ev.now _)
  | succ d ih =>
    intro i hi
    refine Ev.step (fun _ => rfl) ?_
    refine ev_pos (by omega) (ev_pos (by omega) (ev_pos (by omega) ?_))
    rw [drop_rd l i (by omega), List.all_cons]
    by_cases h1 : rd l (i : Int) > 10
    · refine ev_pos h1 (ev_eq (Ev.now _) ?_)
      rw [show decide (rd l (i : Int) ≤ 10) = false from by simp; omega]; rfl
    · refine ev_neg h1 ?_
      rw [w64n i (by omega), show decide (rd l (i : Int) ≤ 10) = true from by simp; omega, Bool.true_and]
      exact ih (i + 1) (by omega)
theorem implStartOk_ev (l : List Int) (hl : l.length ≤ 1000000000) : Ev (fun k => impl_StartOk.f k l) (startB l) := by
  unfold impl_StartOk.f
  exact implStartOk_loop l hl l.length 0 (by omega)

theorem rdL_eq (xs : List (List Int)) (i : Int) : rd_L1 xs i = rowR xs i := rfl

theorem implRuleOk_inner (c : Int) (rule : List (List Int)) (i : Nat) (rest : Bool) (row : List Int) (hl : row.length ≤ 1000000000) (H : Ev (fun k => impl_RuleOk.l0 k c rule rule (rule.length : Int) ((i + 1 : Nat) : Int)) rest) (hi : i ≤ 1000000000) (d : Nat) : ∀ j : Nat, j + d = row.length →
    Ev (fun k => impl_RuleOk.l1 k c rule (i : Int) rule (rule.length : Int) (i : Int) row (row.length : Int) (j : Int)) (entsB i j (row.drop j) && rest) := by
  induction d with
  | zero =>
    intro j hj
    refine Ev.step (fun _ => rfl) ?_
    refine ev_neg (by omega) ?_
    rw [List.drop_eq_nil_of_le (by omega), w64n i (by omega)]
    exact ev_eq H (by simp [entsB])
  | succ d ih =>
    intro j hj
    refine Ev.step (fun _ => rfl) ?_
    refine ev_pos (by omega) (ev_pos (by omega) (ev_pos (by omega) ?_))
    rw [drop_rd row j (by omega), entsB]
    have no : entB i j (rd row (j : Int)) = false → (entB i j (rd row (j : Int)) && entsB i (j + 1) (row.drop (j + 1)) && rest) = false := fun h => by rw [h]; rfl
    by_cases h1 : rd row (j : Int) > 3
    · refine ev_pos h1 (ev_eq (Ev.now _) ?_)
      rw [no (by simp [entB]; omega)]
    refine ev_neg h1 ?_
    by_cases h2 : rd row (j : Int) < -1
    · refine ev_pos h2 (ev_eq (Ev.now _) ?_)
      rw [no (by simp [entB]; omega)]
    refine ev_neg h2 ?_
    have go : entB i j (rd row (j : Int)) = true → Ev (fun k => impl_RuleOk.l1 k c rule (i : Int) rule (rule.length : Int) (i : Int) row (row.length : Int) (wrap64 ((j : Int) + 1))) (entB i j (rd row (j : Int)) && entsB i (j + 1) (row.drop (j + 1)) && rest) := fun h => by
      rw [h, Bool.true_and, w64n j (by omega)]
      exact ih (j + 1) (by omega)
    by_cases h3 : rd row (j : Int) = -1
    · refine ev_pos h3 ?_
      by_cases h4 : (i : Int) = (j : Int)
      · exact ev_pos h4 (go (by simp [entB]; omega))
      · refine ev_neg h4 (ev_eq (Ev.now _) ?_)
        rw [no (by simp [entB, h3, h4])]
    · exact ev_neg h3 (go (by simp [entB]; omega))
theorem implRuleOk_loop (c : Int) (rule : List (List Int)) (hl : rule.length ≤ 100000000) (hr : ∀ r ∈ rule, r.length ≤ 1000000000) (d : Nat) : ∀ i : Nat, i + d = rule.length →
    Ev (fun k => impl_RuleOk.l0 k c rule rule (rule.length : Int) (i : Int)) (rowsB c i (rule.drop i) && (colB c && decide ((rule.length : Int) = c))) := by
  induction d with
  | zero =>
    intro i hi
    refine Ev.step (fun _ => rfl) ?_
    refine ev_neg (by omega) ?_
    rw [coloursOk_f, List.drop_eq_nil_of_le (by omega)]
    cases h : colB c
    · exact Ev.now _
    · exact ev_eq (Ev.now _) (by simp [rowsB]; rfl)
  | succ d ih =>
    intro i hi
    refine Ev.step (fun _ => rfl) ?_
    refine ev_pos (by omega) (ev_pos (by omega) (ev_pos (by omega) ?_))
    rw [rdL_eq, drop_rowR rule i (by omega), rowsB, rowB]
    by_cases h : ((rowR rule (i : Int)).length : Int) = c
    · refine ev_pos h ?_
      have := implRuleOk_inner c rule i _ (rowR rule (i : Int)) (hr _ (rowR_mem rule i (by omega))) (ih (i + 1) (by omega)) (by omega) (rowR rule (i : Int)).length 0 (by omega)
      refine ev_eq this ?_
      simp [h, Bool.and_assoc]
    · refine ev_neg h (ev_eq (Ev.now _) ?_)
      simp [h]
theorem implRuleOk_ev (c : Int) (rule : List (List Int)) (hl : rule.length ≤ 100000000) (hr : ∀ r ∈ rule, r.length ≤ 1000000000) : Ev (fun k => impl_RuleOk.f k c rule) (ruleB c rule) := by
  unfold impl_RuleOk.f
  exact implRuleOk_loop c rule hl hr rule.length 0 (by omega)

theorem ruleAsked_ev (u : List Int) (rule : List (List Int)) (hu : u.length ≤ 1000000000) (hl : rule.length ≤ 100000000) (hr : ∀ r ∈ rule, r.length ≤ 1000000000) : Ev (fun k => impl_ruleAsked.f k u rule) (startB u && ruleB u.length rule) := by
  unfold impl_ruleAsked.f
  refine Ev.bind (implStartOk_ev u hu) ?_
  cases h : startB u with
  | false => exact ev_neg (by simp) (Ev.now _)
  | true => exact ev_pos rfl (Ev.bind (implRuleOk_ev _ rule hl hr) (Ev.now _))

theorem Clone_f (l : List Int) (hl : l.length ≤ 1000000000) : slices_Clone_int_int.f l = some l := by
  unfold slices_Clone_int_int.f
  simp only [Option.bind_some]
  rw [if_pos (by simp; omega)]; rfl

theorem implAdded_set (a b : List Int) (h : b.length = a.length) (i : Nat) (hi : i < b.length) : ((addL a b).take i ++ a.drop i).set i (rd ((addL a b).take i ++ a.drop i) (i : Int) + rd b (i : Int)) = (addL a b).take (i + 1) ++ a.drop (i + 1) := by
  have hl := addL_length a b h
  have e1 : ((addL a b).take i).length = i := by rw [List.length_take]; omega
  have e2 : rd ((addL a b).take i ++ a.drop i) (i : Int) = rd a (i : Int) := by
    rw [rd_nat _ i (by rw [List.length_append, e1, List.length_drop]; omega), rd_nat a i (by omega), List.getElem_append_right (by omega)]
    simp only [e1, Nat.sub_self, List.getElem_drop, Nat.add_zero]
  rw [e2, List.set_append_right _ _ (by omega), e1, Nat.sub_self, drop_rd a i (by omega), List.set_cons_zero, take_rd (addL a b) i (by omega), addL_rd a b i (by omega) h, List.append_assoc]
  rfl
theorem implAdded_loop (a b : List Int) (h : b.length = a.length) (hl : b.length ≤ 1000) (hb : ∀ i : Nat, i < b.length → -1000000 ≤ rd a i + rd b i ∧ rd a i + rd b i ≤ 1000000) (d : Nat) : ∀ i : Nat, i + d = b.length → Ev (fun k => impl_added.l0 k ((addL a b).take i ++ a.drop i) b (b.length : Int) (i : Int)) (addL a b) := by
  have hla := addL_length a b h
  induction d with
  | zero =>
    intro i hi
    refine Ev.step (fun _ => rfl) ?_
    refine ev_neg (by omega) (ev_eq (Ev.now _) ?_)
    rw [List.take_of_length_le (by omega), List.drop_eq_nil_of_le (by omega), List.append_nil]
  | succ d ih =>
    intro i hi
    refine Ev.step (fun _ => rfl) ?_
    refine ev_pos (by omega) (ev_pos (by omega) (ev_pos (by omega) (ev_pos (by rw [List.length_append, List.length_take, List.length_drop]; omega) ?_)))
    have e1 : ((addL a b).take i).length = i := by rw [List.length_take]; omega
    have e2 : rd ((addL a b).take i ++ a.drop i) (i : Int) = rd a (i : Int) := by
      rw [rd_nat _ i (by rw [List.length_append, e1, List.length_drop]; omega), rd_nat a i (by omega), List.getElem_append_right (by omega)]
      simp only [e1, Nat.sub_self, List.getElem_drop, Nat.add_zero]
    have hbi := hb i (by omega)
    rw [w64n i (by omega), w64 (by rw [e2]; omega) (by rw [e2]; omega), show ((i : Int)).toNat = i from by simp, implAdded_set a b h i (by omega)]
    exact ih (i + 1) (by omega)
theorem implAdded_ev (a b : List Int) (h : b.length = a.length) (hl : b.length ≤ 1000) (hb : ∀ i : Nat, i < b.length → -1000000 ≤ rd a i + rd b i ∧ rd a i + rd b i ≤ 1000000) : Ev (fun k => impl_added.f k a b) (addL a b) := by
  unfold impl_added.f
  rw [Clone_f a (by omega)]
  refine Ev.bind (Ev.now _) ?_
  have := implAdded_loop a b h hl hb b.length 0 (by omega)
  simpa using this

theorem implAfter_loop {B : Int} (c : Nat) (r : List (List Int)) (hr : RuleK c r) (u w : List Int) (hn : Near B c 0 u) (hw : ∀ q ∈ w, 0 ≤ q ∧ q < (c : Int)) (hl : w.length ≤ 6) (d : Nat) : ∀ i : Nat, i + d = w.length → Ev (fun k => impl_after.l0 k r (afterL r u (w.take i)) w (w.length : Int) (i : Int)) (afterL r u w) := by
  induction d with
  | zero =>
    intro i hi
    refine Ev.step (fun _ => rfl) ?_
    refine ev_neg (by omega) (ev_eq (Ev.now _) ?_)
    rw [List.take_of_length_le (by omega)]
  | succ d ih =>
    intro i hi
    refine Ev.step (fun _ => rfl) ?_
    have hq := hw _ (rd_mem w i (by omega))
    refine ev_pos (by omega) (ev_pos (by omega) (ev_pos (by omega) (ev_pos hq.1 (ev_pos (by rw [hr.len]; exact hq.2) ?_))))
    have ha := near_after hr (w.take i) 0 u hn (fun q h => hw q (List.mem_of_mem_take h))
    have hb := near_step ha hr _ hq.1 hq.2
    have hlt : (w.take i).length ≤ 6 := by rw [List.length_take]; omega
    obtain ⟨m, hm⟩ := Int.eq_ofNat_of_zero_le hq.1
    rw [rdL_eq]
    refine Ev.bind (implAdded_ev _ _ (by rw [hm, hr.rows m (by omega), ha.1]) (by rw [hm, hr.rows m (by omega)]; have := hr.c3; omega) ?_) ?_
    · intro j hj
      rw [hm, hr.rows m (by omega)] at hj
      have h1 := ha.2.1 j hj; have h5 := ha.2.2; have h2 := hr.ent m j (by omega) hj
      rw [hm]; omega
    · rw [← afterL_snoc, ← take_rd w i (by omega), w64n i (by omega)]
      exact ih (i + 1) (by omega)
theorem implAfter_ev {B : Int} (c : Nat) (r : List (List Int)) (hr : RuleK c r) (u w : List Int) (hn : Near B c 0 u) (hw : ∀ q ∈ w, 0 ≤ q ∧ q < (c : Int)) (hl : w.length ≤ 6) : Ev (fun k => impl_after.f k u r w) (afterL r u w) := by
  unfold impl_after.f
  rw [Clone_f u (by rw [hn.1]; have := hr.c3; omega)]
  exact Ev.bind (Ev.now _) (implAfter_loop c r hr u w hn hw hl w.length 0 (by omega))

theorem implruleWays_loop {B : Int} (c : Nat) (r : List (List Int)) (hr : RuleK c r) (u w : List Int) (hn : Near B c 0 u) (hw : ∀ q ∈ w, 0 ≤ q ∧ q < (c : Int)) (hl : w.length ≤ 6) (d : Nat) : ∀ i : Nat, i + d = w.length → Ev (fun k => impl_ruleWays.l0 k u r w (waysL r u (w.take i)) w (w.length : Int) (i : Int)) (waysL r u w) := by
  induction d with
  | zero =>
    intro i hi
    refine Ev.step (fun _ => rfl) ?_
    refine ev_neg (by omega) (ev_eq (Ev.now _) ?_)
    rw [List.take_of_length_le (by omega)]
  | succ d ih =>
    intro i hi
    refine Ev.step (fun _ => rfl) ?_
    have hq := hw _ (rd_mem w i (by omega))
    have hwt : ∀ (n : Nat) (q : Int), q ∈ w.take n → 0 ≤ q ∧ q < (c : Int) := fun n q h => hw q (List.mem_of_mem_take h)
    have ha := near_after hr (w.take i) 0 u hn (hwt i)
    refine ev_pos (by omega) (ev_pos (by omega) (ev_pos (by omega) (ev_pos (by omega) ?_)))
    rw [show ((i : Int)).toNat = i from by simp]
    refine Ev.bind (implAfter_ev c r hr u (w.take i) hn (hwt i) (by rw [List.length_take]; omega)) ?_
    refine ev_pos hq.1 (ev_pos (by rw [ha.1]; exact hq.2) ?_)
    have e := waysL_snoc r (w.take i) u (rd w (i : Int))
    rw [← take_rd w i (by omega)] at e
    have hb := waysL_bound' hr (w.take (i + 1)) u hn (by rw [List.length_take]; omega) (hwt (i + 1))
    rw [← e, w64 (x := waysL r u (w.take (i + 1))) (by omega) (by omega), w64n i (by omega)]
    by_cases h0 : waysL r u (w.take (i + 1)) = 0
    · refine ev_pos h0 (ev_eq (Ev.now _) ?_)
      have := waysL_append r (w.take (i + 1)) (w.drop (i + 1)) u
      rw [List.take_append_drop, h0, Int.zero_mul] at this
      exact this.symm
    · exact ev_neg h0 (ih (i + 1) (by omega))
theorem implruleWays_ev {B : Int} (c : Nat) (r : List (List Int)) (hr : RuleK c r) (u w : List Int) (hn : Near B c 0 u) (hw : ∀ q ∈ w, 0 ≤ q ∧ q < (c : Int)) (hl : w.length ≤ 6) : Ev (fun k => impl_ruleWays.f k u r w) (waysL r u w) := by
  unfold impl_ruleWays.f
  exact implruleWays_loop c r hr u w hn hw hl w.length 0 (by omega)

end AuxBallSum
section
open Go.Proofs.Ytdplpbhbacbcmaa.Plain
def impl_BallSum.f (k : Nat) (l0 : List Int) (l1 : List (List Int)) (a2 : Int) (a3 : Int) : Option (Int) := if l0.length ≤ 1000000000 ∧ l1.length ≤ 100000000 ∧ ∀ r ∈ l1, r.length ≤ 1000000000 then some (ballSumP l0 l1 a2 a3) else none
theorem impl_BallSum.mono : ∀ a0 a1 a2 a3 k, LeO (impl_BallSum.f k a0 a1 a2 a3) (impl_BallSum.f (k + 1) a0 a1 a2 a3) := fun _ _ _ _ _ => LeO.refl _
theorem impl_BallSum.calls (k : Nat) (A0 : Option Addr) (c0 : Nat) (l0 : List Int) (A1 : Option Addr) (c1 : Nat) (l1 : List (List Int)) (a2 : Int) (a3 : Int) (r : Int) (w : World) (hr0 : Kd.C (Kd.int .i64) w A0 l0.length l0) (hc0 : l0.length ≤ c0) (hr1 : Kd.C (Kd.slice 3 (Kd.int .i64)) w A1 l1.length l1) (hc1 : l1.length ≤ c1) (h : impl_BallSum.f k l0 l1 a2 a3 = some r) :
    Calls Try.prog 14 #[.slice A0 l0.length c0, .slice A1 l1.length c1, .int .i64 a2, .int .i64 a3] w fun e w' => e = .returned (.int .i64 r) ∧ Below w.heap.size w w' := by
  unfold impl_BallSum.f at h
  by_cases hs : l0.length ≤ 1000000000 ∧ l1.length ≤ 100000000 ∧ ∀ r ∈ l1, r.length ≤ 1000000000
  case neg => rw [if_neg hs] at h; cases h
  rw [if_pos hs] at h
  obtain rfl := Option.some.inj h
  obtain ⟨ka, hka⟩ := Ev.rounds (AuxBallSum.ruleAsked_ev l0 l1 hs.1 hs.2.1 hs.2.2)
  have hf : ∀ ws, (fun ws => if 0 < waysL l1 l0 ws then IntKind.i64.wrap (waysL l1 l0 ws * rd (afterL l1 l0 ws) a3) else 0) ws = if 0 < waysL l1 l0 ws then IntKind.i64.wrap (waysL l1 l0 ws * rd (afterL l1 l0 ws) a3) else 0 := fun _ => rfl
  refine (Closure.ballSum_calls w A0 l0.length c0 A1 l1.length c1 a2 a3 (startB l0 && ruleB l0.length l1) (waysL l1 l0) (fun ws => rd (afterL l1 l0 ws) a3) _ hf (fun ha => (asked_known ha).2.2.2.1) ?_ ?_ ?_).mono ?_
  · intro W hb
    exact (impl_ruleAsked.calls ka A0 c0 l0 A1 c1 l1 _ W (Kd.C_below hr0 hb) hc0 (Kd.C_below hr1 hb) hc1 hka).mono fun e w' ⟨he, hd⟩ => ⟨he, hd.below⟩
  · intro ha ws Aw cw W hl h6 hq hb hC hcw
    obtain ⟨hk, n1, _⟩ := asked_known ha
    obtain ⟨kr, hkr⟩ := Ev.rounds (AuxBallSum.implruleWays_ev l0.length l1 hk l0 ws n1 hq (by omega))
    exact impl_ruleWays.calls kr A0 c0 l0 A1 c1 l1 Aw cw ws _ W (Kd.C_below hr0 hb) hc0 (Kd.C_below hr1 hb) hc1 hC hcw hkr
  · intro ha g0 g1 ws Aw cw W hl h6 hq hb hC hcw
    obtain ⟨hk, n1, _⟩ := asked_known ha
    obtain ⟨kr, hkr⟩ := Ev.rounds (AuxBallSum.implAfter_ev l0.length l1 hk l0 ws n1 hq (by omega))
    refine (impl_after.calls kr A0 c0 l0 A1 c1 l1 Aw cw ws _ W (Kd.C_below hr0 hb) hc0 (Kd.C_below hr1 hb) hc1 hC hcw hkr).mono ?_
    rintro e w' ⟨v, rfl, hR, hB⟩
    obtain ⟨A, cp, rfl, hcp, hrow⟩ := Kd.R_reads hR
    have hlen : (afterL l1 l0 ws).length = l0.length := (near_after hk ws 0 l0 n1 hq).1
    obtain ⟨ad, rfl, hx⟩ := Kd.at_int hrow a3 g0 (by rw [hlen]; exact g1)
    rw [hlen]
    exact ⟨ad, cp, rfl, hx, hB⟩
  · rintro e w' ⟨rfl, hb⟩
    refine ⟨?_, hb⟩
    unfold ballSumP
    by_cases hc : (startB l0 && ruleB l0.length l1) = true ∧ (0 ≤ a2 ∧ a2 ≤ 6) ∧ 0 ≤ a3 ∧ a3 < (l0.length : Int)
    · rw [if_pos hc, if_pos hc, ballSum_wrap hc.1 _ (by omega) a3 hc.2.2.1 hc.2.2.2 _ hf]
    · rw [if_neg hc, if_neg hc]
end

/-! ### impl_SameRule: function 71 -/
mutual
def impl_SameRule.j0 : Nat → Int → Int → Bool → Option ((List (List Int)))
  | 0, _, _, _ => none
  | k + 1, x0, x1, x18 => if x18 = true then (some ([] : List (List Int))) else (impl_SameRule.l0 k x0 x1 (([] : List (List Int))) x0 0)
def impl_SameRule.l0 : Nat → Int → Int → List (List Int) → Int → Int → Option ((List (List Int)))
  | 0, _, _, _, _, _ => none
  | k + 1, x0, x1, x5, x20, x21 => if x21 < x20 then (if 0 ≤ x0 then (if (x0 : Int).toNat ≤ 35184372088832 then ((some (List.replicate (x0 : Int).toNat 0 : List Int)).bind fun y202 => (if 0 ≤ x21 then (if x21 < (y202.length : Int) then (if x5.length < 5864062014805 then (impl_SameRule.l0 k x0 x1 (x5 ++ [(y202.set (x21 : Int).toNat x1)]) x20 (wrap64 (x21 + 1))) else (none)) else (none)) else (none))) else (none)) else (none)) else (some x5)
end
def impl_SameRule.f (k : Nat) (a0 : Int) (a1 : Int) : Option ((List (List Int))) := (impl_coloursOk.f a0).bind fun t198 => (if t198 = true then (if a1 < (-1) then (impl_SameRule.j0 k a0 a1 true) else (impl_SameRule.j0 k a0 a1 (decide (a1 > 3)))) else (impl_SameRule.j0 k a0 a1 true))
theorem impl_SameRule.mono_l : ∀ k, (∀ y0 y1 y2, LeO (impl_SameRule.j0 k y0 y1 y2) (impl_SameRule.j0 (k + 1) y0 y1 y2)) ∧ (∀ y0 y1 y2 y3 y4, LeO (impl_SameRule.l0 k y0 y1 y2 y3 y4) (impl_SameRule.l0 (k + 1) y0 y1 y2 y3 y4))
  | 0 => ⟨fun _ _ _ r h => by simp [impl_SameRule.j0] at h, fun _ _ _ _ _ r h => by simp [impl_SameRule.l0] at h⟩
  | k + 1 => by
    obtain ⟨ih0, ih1⟩ := impl_SameRule.mono_l k
    refine ⟨?_, ?_⟩
    · intro y0 y1 y2
      unfold impl_SameRule.j0
      repeat' first
      | (with_reducible exact ih0 _ _ _)
      | (with_reducible exact ih1 _ _ _ _ _)
      | (with_reducible exact LeO.refl _)
      | (with_reducible exact LeO.none _)
      | (with_reducible refine LeO.ite ?_ ?_)
      | (with_reducible refine LeO.bind ?_ (fun _ => ?_))
      | exact ih0 _ _ _
      | exact ih1 _ _ _ _ _
      | exact LeO.none _
      | refine LeO.ite ?_ ?_
      | refine LeO.bind ?_ (fun _ => ?_)
    · intro y0 y1 y2 y3 y4
      unfold impl_SameRule.l0
      repeat' first
      | (with_reducible exact ih0 _ _ _)
      | (with_reducible exact ih1 _ _ _ _ _)
      | (with_reducible exact LeO.refl _)
      | (with_reducible exact LeO.none _)
      | (with_reducible refine LeO.ite ?_ ?_)
      | (with_reducible refine LeO.bind ?_ (fun _ => ?_))
      | exact ih0 _ _ _
      | exact ih1 _ _ _ _ _
      | exact LeO.none _
      | refine LeO.ite ?_ ?_
      | refine LeO.bind ?_ (fun _ => ?_)
theorem impl_SameRule.mono : ∀ a0 a1 k, LeO (impl_SameRule.f k a0 a1) (impl_SameRule.f (k + 1) a0 a1) := by
  intro a0 a1 k
  obtain ⟨ih0, ih1⟩ := impl_SameRule.mono_l k
  unfold impl_SameRule.f
  repeat' first
      | (with_reducible exact ih0 _ _ _)
      | (with_reducible exact ih1 _ _ _ _ _)
      | (with_reducible exact LeO.refl _)
      | (with_reducible exact LeO.none _)
      | (with_reducible refine LeO.ite ?_ ?_)
      | (with_reducible refine LeO.bind ?_ (fun _ => ?_))
      | exact ih0 _ _ _
      | exact ih1 _ _ _ _ _
      | exact LeO.none _
      | refine LeO.ite ?_ ?_
      | refine LeO.bind ?_ (fun _ => ?_)
set_option maxHeartbeats 8000000 in
set_option maxRecDepth 100000 in
theorem impl_SameRule.calls (k : Nat) (a0 : Int) (a1 : Int) (r : List (List Int)) (w : World) (h : impl_SameRule.f k a0 a1 = some r) :
    Calls Try.prog 71 #[.int .i64 a0, .int .i64 a1] w fun e w' => ∃ v0_ : Value, e = .returned (v0_) ∧ Kd.S (Kd.slice 3 (Kd.int .i64)) 23 w' w.heap.size (fun _ => True) v0_ r ∧ Below w.heap.size w w' := by
  have HB := Aside0.mk (Below.refl w.heap.size w)
  have H : ((impl_coloursOk.f a0).bind fun t198 => (if t198 = true then (if a1 < (-1) then (impl_SameRule.j0 k a0 a1 true) else (impl_SameRule.j0 k a0 a1 (decide (a1 > 3)))) else (impl_SameRule.j0 k a0 a1 true))) = some r := h
  clear h
  have HC3 := Aside0.mk H
  clear H
  go_enter Try.func71, Try.ntmps71
  go_upto_region 1 with (fail)
  go_cut [18] (fun v18 wc => ∃ (kq : Nat) (x18_2 : Bool), v18 = .bool x18_2 ∧ Aside0 (impl_SameRule.j0 kq a0 a1 x18_2 = some r) ∧ Aside0 (kq ≤ k) ∧ Aside0 (Below w.heap.size w wc))
  case first =>
    have H := HC3.out
    clear HC3
    replace H := Option.bind_eq_some_iff.mp H
    obtain ⟨t198, A40, H⟩ := H
    replace H : (if t198 = true then (if a1 < (-1) then (impl_SameRule.j0 k a0 a1 true) else (impl_SameRule.j0 k a0 a1 (decide (a1 > 3)))) else (impl_SameRule.j0 k a0 a1 true)) = some r := H
    have A4 := Aside0.mk A40
    clear A40
    by_cases c5 : t198 = true
    · subst c5
      have H1 : (if a1 < (-1) then (impl_SameRule.j0 k a0 a1 true) else (impl_SameRule.j0 k a0 a1 (decide (a1 > 3)))) = some r := by rw [if_pos rfl] at H; exact H
      clear H
      have H := H1
      clear H1
      by_cases c6 : a1 < (-1)
      · rw [if_pos c6] at H
        have c6b0 : decide (a1 < (-1)) = true := decide_eq_true c6
        clear c6
        (first | rw [c6b0] | (simp only [i64_w, i32_w]; rw [c6b0]) | skip)
        have H' := Aside0.mk H
        clear H
        go_wp2_with (first | ((with_reducible refine gate_callee (f := 66) rfl ?_); refine goesL_ (some 9) rfl rfl Try.func66 (by kernel_rfl) rfl #[.int .i64 a0] rfl (by (try simp only [List.map_toArray, List.map_cons, List.map_nil]); first | done | rfl | (simp only [List.length_drop, List.length_take]; rfl)) ?_; (with_reducible refine (impl_coloursOk.calls a0 true _ A4.out).mono ?_); rintro e w' ⟨rfl, ⟨nd, rfl⟩⟩; refine ⟨_, rfl, ?_⟩))
        go_meet
        case rel => exact ⟨_, (true), (by first | rfl | (simp; done) | (simp [*]; done)), H', ⟨by first | omega | exact Nat.le_refl _⟩, ⟨by repeat (first | (with_reducible first | exact HB.out | apply below_alloc | apply pw_below_drewN | apply below_drew1) | exact HB.out)⟩⟩
      · rw [if_neg c6] at H
        have c6b0 : decide (a1 < (-1)) = false := decide_eq_false c6
        clear c6
        (first | rw [c6b0] | (simp only [i64_w, i32_w]; rw [c6b0]) | skip)
        have H' := Aside0.mk H
        clear H
        go_wp2_with (first | ((with_reducible refine gate_callee (f := 66) rfl ?_); refine goesL_ (some 9) rfl rfl Try.func66 (by kernel_rfl) rfl #[.int .i64 a0] rfl (by (try simp only [List.map_toArray, List.map_cons, List.map_nil]); first | done | rfl | (simp only [List.length_drop, List.length_take]; rfl)) ?_; (with_reducible refine (impl_coloursOk.calls a0 true _ A4.out).mono ?_); rintro e w' ⟨rfl, ⟨nd, rfl⟩⟩; refine ⟨_, rfl, ?_⟩))
        go_meet
        case rel => exact ⟨_, (decide (a1 > 3)), (by first | rfl | (simp; done) | (simp [*]; done)), H', ⟨by first | omega | exact Nat.le_refl _⟩, ⟨by repeat (first | (with_reducible first | exact HB.out | apply below_alloc | apply pw_below_drewN | apply below_drew1) | exact HB.out)⟩⟩
    · replace c5 := Bool.eq_false_iff.mpr c5
      subst c5
      have H1 : (impl_SameRule.j0 k a0 a1 true) = some r := by rw [if_neg (show ¬ (false = true) by decide)] at H; exact H
      clear H
      have H := H1
      clear H1
      have H' := Aside0.mk H
      clear H
      go_wp2_with (first | ((with_reducible refine gate_callee (f := 66) rfl ?_); refine goesL_ (some 9) rfl rfl Try.func66 (by kernel_rfl) rfl #[.int .i64 a0] rfl (by (try simp only [List.map_toArray, List.map_cons, List.map_nil]); first | done | rfl | (simp only [List.length_drop, List.length_take]; rfl)) ?_; (with_reducible refine (impl_coloursOk.calls a0 false _ A4.out).mono ?_); rintro e w' ⟨rfl, ⟨nd, rfl⟩⟩; refine ⟨_, rfl, ?_⟩))
      go_meet
      case rel => exact ⟨_, (true), (by first | rfl | (simp; done) | (simp [*]; done)), H', ⟨by first | omega | exact Nat.le_refl _⟩, ⟨by repeat (first | (with_reducible first | exact HB.out | apply below_alloc | apply pw_below_drewN | apply below_drew1) | exact HB.out)⟩⟩
  case rest =>
    clear HC3
    try clear p2
    try clear c5
    try clear c6
    try clear c6b0
    obtain ⟨kq, x18_2, rfl, HA, HJ2, HB⟩ := hcut
    cases kq with
    | zero => exact absurd HA.out (by simp [impl_SameRule.j0])
    | succ kj2 =>
      have H := HA.out
      clear HA
      simp only [impl_SameRule.j0] at H
      by_cases c7 : x18_2 = true
      · subst c7
        have H1 : (some ([] : List (List Int))) = some r := by rw [if_pos rfl] at H; exact H
        clear H
        have H := H1
        clear H1
        obtain rfl := Option.some.inj H
        go_wp2
        go_ret
        exact ⟨_, by first | rfl | (simp [errW_none, errW_some] <;> rfl) | (simp [*, errW_none, errW_some] <;> rfl), by first | exact Kd.S_nil _ _ _ _ _ | exact Kd.N_nil _ _ _ _ _ | exact Kd.V_nil _ _ _ _ _ | exact Kd.Q_nil _ _ _ _ _ | exact Kd.R_nil _ _ _ _ _, by repeat (first | (with_reducible first | exact HB.out | apply below_alloc | apply pw_below_drewN | apply below_drew1) | exact HB.out)⟩
      · replace c7 := Bool.eq_false_iff.mpr c7
        subst c7
        have H1 : (impl_SameRule.l0 kj2 a0 a1 (([] : List (List Int))) a0 0) = some r := by rw [if_neg (show ¬ (false = true) by decide)] at H; exact H
        clear H
        have H := H1
        clear H1
        obtain ⟨y199, hy199⟩ : ∃ y_ : List (List Int), y_ = (([] : List (List Int))) := ⟨_, rfl⟩
        replace H : (impl_SameRule.l0 kj2 a0 a1 y199 a0 0) = some r := by first | (rw [hy199]; with_reducible exact H) | (have H2_ := (Option.bind_some _ _).symm.trans H; rw [hy199]; with_reducible exact H2_) | (have H2_ := (Option.bind_some _ _).symm.trans H; with_reducible exact H2_) | with_reducible exact H | (rw [hy199]; exact H) | exact H
        have Ny199 := Aside0.mk hy199
        clear hy199
        have H' := Aside0.mk H
        clear H
        go_wp2_with (first | ((with_reducible refine gate_dst (N := 19) rfl ?_); refine Kd.S_lit (Kd.slice 3 (Kd.int .i64)) _ 23 ?hg (N := 19) ?hd (xs := ([] : List (List Int))) (inner := []) (ok := fun _ => True) (okp := fun _ => True) ?hr ?hp (fun _ hk => hk) trivial (Below.refl _ _) (Nat.le_refl _) (by simp) ?_; (case hd => rfl); (case hg => rfl); (case hr => first | (go_simp; done) | (go_simp; rfl)); (case hp => exact (Reps.none _ _)); intro v200 w8 ho9 hb hg_ hnew_; clear hg_ hnew_; (first | rw [← Ny199.out] at ho9 | (simp only [Int.reduceToNat] at ho9; rw [← Ny199.out] at ho9)); have n0_ := Aside0.mk (Kd.S_lower ho9 (below_size (by repeat (first | (with_reducible first | exact HB.out | apply below_alloc | apply pw_below_drewN | apply below_drew1) | exact HB.out)))); have n1_ := Aside0.mk (below_step (by repeat (first | (with_reducible first | exact HB.out | apply below_alloc | apply pw_below_drewN | apply below_drew1) | exact HB.out)) hb); clear HB; have HO201 := n0_; have HB := n1_; clear n0_ n1_; clear hb ho9))
        go_loopg [5, 21] kj2 (fun kq v5 v21 w' => ∃ (x5_2 : List (List Int)) (x21_2 : Int), v21 = .int .i64 x21_2 ∧ Aside0 (impl_SameRule.l0 kq a0 a1 x5_2 a0 x21_2 = some r) ∧ Aside0 (kq ≤ kj2) ∧ Aside0 (Kd.S (Kd.slice 3 (Kd.int .i64)) 23 w' w.heap.size (fun _ => True) v5 x5_2) ∧ Aside0 (Below w.heap.size w w'))
        case atStart => exact ⟨(y199), (0), (by first | rfl | (simp; done) | (simp [*]; done)), H', ⟨Nat.le_refl _⟩, ⟨by (with_reducible repeat (first | apply Kd.S_alloc | apply Kd.S_drewN | apply Kd.S_drew)); exact HO201.out⟩, ⟨by repeat (first | (with_reducible first | exact HB.out | apply below_alloc | apply pw_below_drewN | apply below_drew1) | exact HB.out)⟩⟩
        case round =>
          clear H'
          try clear p2
          try clear c5
          try clear c6
          try clear c6b0
          try clear c7
          try clear p2
          obtain ⟨x5_2, x21_2, rfl, HA, HK2, HO_5, HB⟩ := hrel
          cases gk with
          | zero => exact absurd HA.out (by simp [impl_SameRule.l0])
          | succ k2 =>
            have H := HA.out
            clear HA
            simp only [impl_SameRule.l0] at H
            by_cases c10 : x21_2 < a0
            · rw [if_pos c10] at H
              have c10b0 : decide (x21_2 < a0) = true := decide_eq_true c10
              clear c10
              by_cases c11 : 0 ≤ a0
              · rw [if_pos c11] at H
                have c11b0 := eq_true c11
                have c11b1 : decide (0 ≤ a0) = true := decide_eq_true c11
                clear c11
                by_cases c12 : (a0 : Int).toNat ≤ 35184372088832
                · rw [if_pos c12] at H
                  have c12b0 := eq_true c12
                  have c12b1 : decide ((a0 : Int).toNat ≤ 35184372088832) = true := decide_eq_true c12
                  clear c12
                  obtain ⟨y202, hy202⟩ : ∃ y_ : List Int, y_ = (List.replicate (a0 : Int).toNat 0) := ⟨_, rfl⟩
                  replace H : (if 0 ≤ x21_2 then (if x21_2 < (y202.length : Int) then (if x5_2.length < 5864062014805 then (impl_SameRule.l0 k2 a0 a1 (x5_2 ++ [(y202.set (x21_2 : Int).toNat a1)]) a0 (wrap64 (x21_2 + 1))) else (none)) else (none)) else (none)) = some r := by first | (rw [hy202]; with_reducible exact H) | (have H2_ := (Option.bind_some _ _).symm.trans H; rw [hy202]; with_reducible exact H2_) | (have H2_ := (Option.bind_some _ _).symm.trans H; with_reducible exact H2_) | with_reducible exact H | (rw [hy202]; exact H) | exact H
                  have Ny202 := Aside0.mk hy202
                  clear hy202
                  by_cases c13 : 0 ≤ x21_2
                  · rw [if_pos c13] at H
                    have c13b0 : decide (0 ≤ x21_2) = true := decide_eq_true c13
                    clear c13
                    by_cases c14 : x21_2 < (y202.length : Int)
                    · rw [if_pos c14] at H
                      have c14b0 : decide (x21_2 < (y202.length : Int)) = true := decide_eq_true c14
                      clear c14
                      obtain ⟨y205, hy205⟩ : ∃ y_ : List Int, y_ = (y202.set (x21_2 : Int).toNat a1) := ⟨_, rfl⟩
                      replace H : (if x5_2.length < 5864062014805 then (impl_SameRule.l0 k2 a0 a1 (x5_2 ++ [y205]) a0 (wrap64 (x21_2 + 1))) else (none)) = some r := by first | (rw [hy205]; with_reducible exact H) | (have H2_ := (Option.bind_some _ _).symm.trans H; rw [hy205]; with_reducible exact H2_) | (have H2_ := (Option.bind_some _ _).symm.trans H; with_reducible exact H2_) | with_reducible exact H | (rw [hy205]; exact H) | exact H
                      have Ny205 := Aside0.mk hy205
                      clear hy205
                      by_cases c16 : x5_2.length < 5864062014805
                      · rw [if_pos c16] at H
                        have LMc16 := Aside0.mk c16
                        clear c16
                        obtain ⟨y206, hy206⟩ : ∃ y_ : List (List Int), y_ = (x5_2 ++ [y205]) := ⟨_, rfl⟩
                        replace H : (impl_SameRule.l0 k2 a0 a1 y206 a0 (wrap64 (x21_2 + 1))) = some r := by first | (rw [hy206]; with_reducible exact H) | (have H2_ := (Option.bind_some _ _).symm.trans H; rw [hy206]; with_reducible exact H2_) | (have H2_ := (Option.bind_some _ _).symm.trans H; with_reducible exact H2_) | with_reducible exact H | (rw [hy206]; exact H) | exact H
                        have Ny206 := Aside0.mk hy206
                        clear hy206
                        have H' := Aside0.mk H
                        clear H
                        go_wp2_with (first | ((with_reducible refine gate_dst (N := 25) rfl ?_); refine Kd.R_make (Kd.int .i64) _ 3 rfl (N := 25) rfl 23 _ _ rfl a0 rfl rfl Try.underlying23 (.int .i64 0) 8 info3 rfl (by decide) (by omega) 0 (ok := fun _ => True) (okp := fun _ => True) rfl (fun _ hk => hk) trivial (of_decide_eq_true (by first | (with_reducible assumption) | assumption)) (Nat.le_trans (Nat.mul_le_mul_right _ (of_decide_eq_true (by first | (with_reducible assumption) | assumption) : a0.toNat ≤ 35184372088832)) (by omega)) (Below.refl _ _) (Nat.le_refl _) ?_; intro v203 w17 ho18 hb hg_ hnew_; clear hg_ hnew_; (first | rw [← Ny202.out] at ho18 | (simp only [Int.reduceToNat] at ho18; rw [← Ny202.out] at ho18)); have n0_ := Aside0.mk (Kd.S_elder' (by (with_reducible repeat (first | apply Kd.S_alloc | apply Kd.S_drewN | apply Kd.S_drew)); exact HO_5.out) (Kd.R_base ho18) hb); have n1_ := Aside0.mk (Kd.R_lower ho18 (below_size (by repeat (first | (with_reducible first | exact HB.out | apply below_alloc | apply pw_below_drewN | apply below_drew1) | exact HB.out)))); have n2_ := Aside0.mk (below_step (by repeat (first | (with_reducible first | exact HB.out | apply below_alloc | apply pw_below_drewN | apply below_drew1) | exact HB.out)) hb); clear HO_5; clear HB; have HO_5 := n0_; have HO204 := n1_; have HB := n2_; clear n0_ n1_ n2_; clear hb ho18; have p15 : 0 ≤ (x21_2 : Int) := of_decide_eq_true (by first | (with_reducible assumption) | assumption); have q15 : (x21_2 : Int) < ((y202.length : Int) : Int) := of_decide_eq_true (by first | (with_reducible assumption) | assumption); obtain ⟨go15, co15, eo15, gb15, gl15, cl15, HG15⟩ := Kd.R_form HO204.out (by omega); (first | cases eo15 | (injection eo15 with ea_ en_ ec_; (first | subst ea_ | (injection ea_ with ea_; subst ea_)); subst ec_; clear en_)); have GB15 := Aside0.mk gb15; have GG15 := Aside0.mk HG15; clear gb15 gl15 HG15; obtain ⟨hx15_0, hf15_0⟩ := Kd.R_celln 0 HO204.out (x21_2 : Int) p15 q15; replace p15 := eq_true p15; replace q15 := eq_true q15; obtain ⟨hy19_, hz19_⟩ := Kd.R_celln 0 HO204.out (x21_2 : Int) (of_decide_eq_true (by first | (with_reducible assumption) | assumption)) (of_decide_eq_true (by first | (with_reducible assumption) | assumption)); have HP19 := Kd.R_putg HO204.out (x21_2 : Int) a1) | ((with_reducible refine gate_store (t := 3) (p := 29) rfl ?_); refine store_event (t := 3) (p := 29) (v := ?vo_w20) (w1 := (w17.setCell ⟨go15, (x21_2 : Int).toNat, none⟩ (.int .i64 a1))) ?hg ?ho ?hn ?hr ?_; (case ho => rfl); (case hg => rfl); (case hn => rfl); (case hr => first | (go_simp; done) | (go_simp; rfl)); intro w20 hw; have hg : w17.grownBy w20 (some go15) := (by rw [hw]; exact HP19.2); have hp_ : Kd.R (Kd.int .i64) 3 w20 w.heap.size (fun _ => True) (.slice (some ⟨go15, 0, none⟩) y202.length co15) y205 := (by rw [hw, Ny205.out]; exact HP19.1); clear HP19; have n0_ := Aside0.mk (Kd.S_after (v := (.slice (some ⟨go15, 0, none⟩) y202.length co15)) (v1 := (.slice (some ⟨go15, 0, none⟩) y202.length co15)) (ok := (fun _ => True)) (by (with_reducible repeat (first | apply Kd.S_alloc | apply Kd.S_drewN | apply Kd.S_drew)); exact HO_5.out) hg (.inl rfl)); have n1_ := Aside0.mk (hp_); have n2_ := Aside0.mk ((by rw [hw]; exact below_set (HB.out) GB15.out : Below w.heap.size w w20)); clear HO_5; clear HO204; clear HB; have HO_5 := n0_; have HO204 := n1_; have HB := n2_; clear n0_ n1_ n2_; clear hg hw hp_) | ((with_reducible refine gate_builtin (b := .append) (xs := #[.tmp 30, .tmp 32]) rfl ?_); at_builtin; refine Kd.S_append (Kd.slice 3 (Kd.int .i64)) (w0 := w) w.heap.size rfl (.tmp 30) (.tmp 32) 24 23 (.slice none 0 0) 24 rfl Try.underlying24 info23 rfl (by decide) (by omega) u5 x5_2 y205 [.slice (some ⟨go15, 0, none⟩) y202.length co15] (fun _ => True) (fun k_ => some k_ = (.slice (some ⟨go15, 0, none⟩) y202.length co15 : Value).ownBlock) rfl rfl ?aP (fun k_ hk_ => ((Kd.R_mono (ok' := fun k_ => ((fun _ => True)) k_ ∧ some k_ ≠ (u5 : Value).ownBlock) (Kd.R_apart' (HO204.out) (Kd.S_typed HO_5.out) (by decide)) (fun k_ hk => ⟨trivial, hk.2⟩))).1 k_ hk_.symm) ?aF ?aO ?aB ?aS ?aL ?_; (case aP => exact Kd.M_row (Kd.R_mono (Kd.R_tight rfl (Kd.R_mono (ok' := fun k_ => ((fun _ => True)) k_ ∧ some k_ ≠ (u5 : Value).ownBlock) (Kd.R_apart' (HO204.out) (Kd.S_typed HO_5.out) (by decide)) (fun k_ hk => ⟨trivial, hk.2⟩))) (fun _ h_ => h_))); (case aB => exact (by repeat (first | (with_reducible first | exact HB.out | apply below_alloc | apply pw_below_drewN | apply below_drew1) | exact HB.out))); (case aF => exact (fun _ _ => trivial)); (case aO => exact (by (with_reducible repeat (first | apply Kd.S_alloc | apply Kd.S_drewN | apply Kd.S_drew)); exact Kd.S_mono HO_5.out (fun k_ hk => ⟨trivial, fun e_ => hk.2 e_⟩))); (case aS => exact (below_size (by repeat (first | (with_reducible first | exact HB.out | apply below_alloc | apply pw_below_drewN | apply below_drew1) | exact HB.out)))); (case aL => have := LMc16.out; omega); intro v207 w21 ho hb hg hat; rw [← Ny206.out] at ho; have n0_ := Aside0.mk (hb); have n1_ := Aside0.mk (ho); clear HB; clear HO_5; clear HO204; have HB := n0_; have HO208 := n1_; clear n0_ n1_; clear ho hb hg hat))
                        go_roundg k2
                        case measure => have := HJ2.out; have := HK2.out; omega
                        case rel => exact ⟨(y206), (wrap64 (x21_2 + 1)), (by first | rfl | (simp; done) | (simp [*]; done)), H', ⟨by have := HJ2.out; have := HK2.out; omega⟩, ⟨by (with_reducible repeat (first | apply Kd.S_alloc | apply Kd.S_drewN | apply Kd.S_drew)); exact HO208.out⟩, ⟨by repeat (first | (with_reducible first | exact HB.out | apply below_alloc | apply pw_below_drewN | apply below_drew1) | exact HB.out)⟩⟩
                      · rw [if_neg c16] at H
                        exact absurd H (by simp)
                    · rw [if_neg c14] at H
                      exact absurd H (by simp)
                  · rw [if_neg c13] at H
                    exact absurd H (by simp)
                · rw [if_neg c12] at H
                  exact absurd H (by simp)
              · rw [if_neg c11] at H
                exact absurd H (by simp)
            · rw [if_neg c10] at H
              have c10b0 : decide (x21_2 < a0) = false := decide_eq_false c10
              clear c10
              obtain rfl := Option.some.inj H
              go_wp2
              go_ret
              exact ⟨_, by first | rfl | (simp [errW_none, errW_some] <;> rfl) | (simp [*, errW_none, errW_some] <;> rfl), by (with_reducible repeat (first | apply Kd.S_alloc | apply Kd.S_drewN | apply Kd.S_drew)); exact HO_5.out, by repeat (first | (with_reducible first | exact HB.out | apply below_alloc | apply pw_below_drewN | apply below_drew1) | exact HB.out)⟩

/-! ### impl_ShareSum: function 37 (my own proof) -/
namespace AuxShareSum
open Go.Proofs.Ytdplpbhbacbcmaa.Plain
theorem coloursOk_f (x : Int) : impl_coloursOk.f x = some (colB x) := by
  unfold impl_coloursOk.f colB
  by_cases h : x ≥ 1
  · rw [if_pos h]; congr 1; simp [h]
  · rw [if_neg h]; congr 1; simp; omega

theorem implSameRule_loop (c : Nat) (s : Int) (hc : c ≤ 3) (d : Nat) : ∀ i : Nat, i + d = c → Ev (fun k => impl_SameRule.l0 k (c : Int) s (sameL c s i) (c : Int) (i : Int)) (sameL c s c) := by
  induction d with
  | zero =>
    intro i hi
    refine Ev.step (fun _ => rfl) ?_
    refine ev_neg (by omega) (ev_eq (Ev.now _) ?_)
    rw [show i = c by omega]
  | succ d ih =>
    intro i hi
    refine Ev.step (fun _ => rfl) ?_
    refine ev_pos (by omega) (ev_pos (by omega) (ev_pos (by omega) (Ev.bind (Ev.now _) (ev_pos (by omega) (ev_pos (by simp; omega) (ev_pos (by rw [sameL_length]; omega) ?_))))))
    rw [w64n i (by omega)]
    exact ih (i + 1) (by omega)
theorem implSameRule_ev (c s : Int) : Ev (fun k => impl_SameRule.f k c s) (sameP c s) := by
  have no : Ev (fun k => impl_SameRule.j0 k c s true) [] := Ev.step (fun _ => rfl) (Ev.now _)
  unfold impl_SameRule.f sameP
  rw [coloursOk_f]
  refine Ev.bind (Ev.now _) ?_
  by_cases h : 1 ≤ c ∧ c ≤ 3
  · refine ev_pos (by simp [colB, h]) ?_
    by_cases h1 : s < -1
    · refine ev_pos h1 ?_
      rw [if_neg (by omega)]; exact no
    refine ev_neg h1 ?_
    by_cases h2 : s > 3
    · rw [decide_eq_true h2, if_neg (by omega)]; exact no
    · rw [decide_eq_false h2, if_pos ⟨h, by omega, by omega⟩]
      obtain ⟨m, rfl⟩ := Int.eq_ofNat_of_zero_le (show 0 ≤ c by omega)
      exact Ev.step (fun _ => rfl) (implSameRule_loop m s (by omega) m 0 (by omega))
  · refine ev_neg (by simp [colB]; omega) ?_
    rw [if_neg (fun hh => h hh.1)]; exact no

end AuxShareSum
section
open Go.Proofs.Ytdplpbhbacbcmaa.Plain
def impl_ShareSum.f (k : Nat) (l0 : List Int) (a1 : Int) (a2 : Int) (a3 : Int) : Option (Int) := if l0.length ≤ 1000000000 then some (ballSumP l0 (sameP l0.length a1) a2 a3) else none
theorem impl_ShareSum.mono : ∀ a0 a1 a2 a3 k, LeO (impl_ShareSum.f k a0 a1 a2 a3) (impl_ShareSum.f (k + 1) a0 a1 a2 a3) := fun _ _ _ _ _ => LeO.refl _
set_option maxHeartbeats 4000000 in
set_option maxRecDepth 100000 in
theorem impl_ShareSum.calls (k : Nat) (A0 : Option Addr) (c0 : Nat) (l0 : List Int) (a1 : Int) (a2 : Int) (a3 : Int) (r : Int) (w : World) (hr0 : Kd.C (Kd.int .i64) w A0 l0.length l0) (hc0 : l0.length ≤ c0) (h : impl_ShareSum.f k l0 a1 a2 a3 = some r) :
    Calls Try.prog 37 #[.slice A0 l0.length c0, .int .i64 a1, .int .i64 a2, .int .i64 a3] w fun e w' => e = .returned (.int .i64 r) ∧ Below w.heap.size w w' := by
  unfold impl_ShareSum.f at h
  by_cases hs : l0.length ≤ 1000000000
  case neg => rw [if_neg hs] at h; cases h
  rw [if_pos hs] at h
  obtain rfl := Option.some.inj h
  obtain ⟨ks, hks⟩ := Ev.rounds (AuxShareSum.implSameRule_ev (l0.length : Int) a1)
  have hlen : (sameP (l0.length : Int) a1).length ≤ 3 ∧ ∀ x ∈ sameP (l0.length : Int) a1, x.length ≤ 3 := by
    unfold sameP
    by_cases hc : (1 ≤ (l0.length : Int) ∧ (l0.length : Int) ≤ 3) ∧ -1 ≤ a1 ∧ a1 ≤ 3
    · rw [if_pos hc, Int.toNat_natCast]
      exact ⟨by rw [sameL_length]; omega, fun x hx => by rw [sameL_rows _ _ _ x hx]; omega⟩
    · rw [if_neg hc]; simp
  have H71 := Aside0.mk (impl_SameRule.calls ks (l0.length : Int) a1 _ w hks)
  have H14 := Aside0.mk (fun A (c : Nat) W hB hC hc => impl_BallSum.calls k A0 c0 l0 A c (sameP (l0.length : Int) a1) a2 a3 (ballSumP l0 (sameP (l0.length : Int) a1) a2 a3) W (Kd.C_below hr0 hB) hc0 hC hc (by unfold impl_BallSum.f; rw [if_pos ⟨hs, by omega, fun x hx => by have := hlen.2 x hx; omega⟩]))
  have hnil : sameP (l0.length : Int) a1 = [] → ballSumP l0 (sameP (l0.length : Int) a1) a2 a3 = -1 := fun e => by
    unfold ballSumP
    rw [e, if_neg ?_]
    rintro ⟨h1, _⟩
    simp [ruleB, colB] at h1
    omega
  have HNIL := Aside0.mk hnil
  have qn : ∀ (W : World) (n c : Nat), (binOp .eql 24 (.slice none n c) (.slice none 0 0)).run Try.prog W = .ok (.bool true) W := fun W n c => Lib.run_eql_slice_nil W _ _ none n c 0 0 Try.underlying24
  have qs : ∀ (W : World) (ad : Addr) (n c : Nat), (binOp .eql 24 (.slice (some ad) n c) (.slice none 0 0)).run Try.prog W = .ok (.bool false) W := fun W ad n c => Lib.run_eql_slice_nil W _ _ (some ad) n c 0 0 Try.underlying24
  clear hks hr0 hc0 hs hlen hnil
  generalize hrule : sameP (l0.length : Int) a1 = rule at *
  generalize hres : ballSumP l0 rule a2 a3 = res at *
  clear hrule hres
  go_enter Try.func37, Try.ntmps37
  go_wp2_with (first
    | (go_at_call 71; refine H71.out.mono ?_; rintro e w1 ⟨v, rfl, hS, hB1⟩; obtain ⟨A, cA, rfl, hcA, hCA⟩ := Kd.S_reads hS; have HB1 := Aside0.mk hB1; have HCA := Aside0.mk hCA; have HcA := Aside0.mk hcA; clear hS hB1 hCA hcA; cases A)
    | (go_at_call 14; refine (H14.out _ _ _ HB1.out HCA.out HcA.out).mono ?_; rintro e w2 ⟨rfl, hB2⟩; have HB2 := Aside0.mk (HB1.out.trans (hB2.mono HB1.out.size)); clear hB2))
  · go_ret
    have e : rule = [] := by
      have h3 := HCA.out.2.2
      cases rule with
      | nil => rfl
      | cons x xs => obtain ⟨ad, h4, _⟩ := h3 (by simp); cases h4
    exact ⟨by rw [HNIL.out e]; rfl, HB1.out⟩
  · go_ret
    exact ⟨rfl, HB2.out⟩
end

end Go.Proofs.Ytdplpbhbacbcmaa.PFnExactShareSum
