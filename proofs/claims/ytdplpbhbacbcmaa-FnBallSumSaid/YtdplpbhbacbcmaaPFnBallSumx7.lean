/- Lean functions for the Go functions that this law reaches, and proofs that the program comes to just their answers. No condition. (Laid by wip/gen/pprint.py over the kit's print.py.) -/
import Derived.Test.YtdplpbhbacbcmaaPlainC
import Derived.Test.YtdplpbhbacbcmaaClosureB
import Derived.Test.YtdplpbhbacbcmaaPFnBallSumx4
import Derived.Test.YtdplpbhbacbcmaaPFnBallSumx1
import Derived.Test.YtdplpbhbacbcmaaPFnBallSumx0
import Derived.Test.YtdplpbhbacbcmaaPFnBallSumx2
import Derived.Test.YtdplpbhbacbcmaaPFnBallSumx3
import Derived.Test.YtdplpbhbacbcmaaPFnBallSumx5
import Derived.Test.YtdplpbhbacbcmaaPFnBallSumx6
namespace Go.Proofs.Ytdplpbhbacbcmaa.PFnBallSum
open Go.RowKit Go.Proofs.YtdplpbhbacbcmaaW.PrintWords Go.Proofs.YtdplpbhbacbcmaaW.PrintLast Go.Proofs.YtdplpbhbacbcmaaW.PrintMore
attribute [local go_sem] max2_int min2_int max_two min_two max_three min_three max_four min_four   -- for this text's walks alone
set_option linter.unusedVariables false
set_option linter.unusedSimpArgs false

/-! ### spec_RuleAll: function 21 -/
def spec_RuleAll.f (k : Nat) (l0 : List Int) (l1 : List (List Int)) (a2 : Int) : Option (Int) := (spec_StartOk.f k l0).bind fun t328 => (if t328 = true then ((spec_RuleOk.f k (l0.length : Int) l1).bind fun t329 => (if t329 = true then ((spec_l1In.f a2 0 6).bind fun t330 => (if t330 = true then ((spec_l4All.f k l0 l1 a2).bind fun t331 => (some t331)) else (some (-1)))) else (some (-1)))) else (some (-1)))
theorem spec_RuleAll.mono : ∀ a0 a1 a2 k, LeO (spec_RuleAll.f k a0 a1 a2) (spec_RuleAll.f (k + 1) a0 a1 a2) := by
  intro a0 a1 a2 k
  unfold spec_RuleAll.f
  repeat' first
      | (with_reducible exact spec_RuleOk.mono _ _ _)
      | (with_reducible exact spec_StartOk.mono _ _)
      | (with_reducible exact spec_l4All.mono _ _ _ _)
      | (with_reducible exact LeO.refl _)
      | (with_reducible exact LeO.none _)
      | (with_reducible refine LeO.ite ?_ ?_)
      | (with_reducible refine LeO.bind ?_ (fun _ => ?_))
      | exact spec_RuleOk.mono _ _ _
      | exact spec_StartOk.mono _ _
      | exact spec_l4All.mono _ _ _ _
      | exact LeO.none _
      | refine LeO.ite ?_ ?_
      | refine LeO.bind ?_ (fun _ => ?_)
set_option maxHeartbeats 8000000 in
set_option maxRecDepth 100000 in
theorem spec_RuleAll.calls (k : Nat) (A0 : Option Addr) (c0 : Nat) (l0 : List Int) (A1 : Option Addr) (c1 : Nat) (l1 : List (List Int)) (a2 : Int) (r : Int) (w : World) (hr0 : Kd.C (Kd.int .i64) w A0 l0.length l0) (hc0 : l0.length ≤ c0) (hr1 : Kd.C (Kd.slice 3 (Kd.int .i64)) w A1 l1.length l1) (hc1 : l1.length ≤ c1) (h : spec_RuleAll.f k l0 l1 a2 = some r) :
    Calls Try.prog 21 #[.slice A0 l0.length c0, .slice A1 l1.length c1, .int .i64 a2] w fun e w' => e = .returned (.int .i64 r) ∧ Below w.heap.size w w' := by
  have HR0 := Aside0.mk hr0
  have HC0 := Aside0.mk hc0
  clear hr0 hc0
  have HR1 := Aside0.mk hr1
  have HC1 := Aside0.mk hc1
  clear hr1 hc1
  have HB := Aside0.mk (Below.refl w.heap.size w)
  have H : ((spec_StartOk.f k l0).bind fun t328 => (if t328 = true then ((spec_RuleOk.f k (l0.length : Int) l1).bind fun t329 => (if t329 = true then ((spec_l1In.f a2 0 6).bind fun t330 => (if t330 = true then ((spec_l4All.f k l0 l1 a2).bind fun t331 => (some t331)) else (some (-1)))) else (some (-1)))) else (some (-1)))) = some r := h
  clear h
  replace H := Option.bind_eq_some_iff.mp H
  obtain ⟨t328, A40, H⟩ := H
  replace H : (if t328 = true then ((spec_RuleOk.f k (l0.length : Int) l1).bind fun t329 => (if t329 = true then ((spec_l1In.f a2 0 6).bind fun t330 => (if t330 = true then ((spec_l4All.f k l0 l1 a2).bind fun t331 => (some t331)) else (some (-1)))) else (some (-1)))) else (some (-1))) = some r := H
  have A4 := Aside0.mk A40
  clear A40
  by_cases c5 : t328 = true
  · subst c5
    have H1 : ((spec_RuleOk.f k (l0.length : Int) l1).bind fun t329 => (if t329 = true then ((spec_l1In.f a2 0 6).bind fun t330 => (if t330 = true then ((spec_l4All.f k l0 l1 a2).bind fun t331 => (some t331)) else (some (-1)))) else (some (-1)))) = some r := by rw [if_pos rfl] at H; exact H
    clear H
    have H := H1
    clear H1
    replace H := Option.bind_eq_some_iff.mp H
    obtain ⟨t329, A60, H⟩ := H
    replace H : (if t329 = true then ((spec_l1In.f a2 0 6).bind fun t330 => (if t330 = true then ((spec_l4All.f k l0 l1 a2).bind fun t331 => (some t331)) else (some (-1)))) else (some (-1))) = some r := H
    have A6 := Aside0.mk A60
    clear A60
    by_cases c7 : t329 = true
    · subst c7
      have H1 : ((spec_l1In.f a2 0 6).bind fun t330 => (if t330 = true then ((spec_l4All.f k l0 l1 a2).bind fun t331 => (some t331)) else (some (-1)))) = some r := by rw [if_pos rfl] at H; exact H
      clear H
      have H := H1
      clear H1
      replace H := Option.bind_eq_some_iff.mp H
      obtain ⟨t330, A80, H⟩ := H
      replace H : (if t330 = true then ((spec_l4All.f k l0 l1 a2).bind fun t331 => (some t331)) else (some (-1))) = some r := H
      have A8 := Aside0.mk A80
      clear A80
      by_cases c9 : t330 = true
      · subst c9
        have H1 : ((spec_l4All.f k l0 l1 a2).bind fun t331 => (some t331)) = some r := by rw [if_pos rfl] at H; exact H
        clear H
        have H := H1
        clear H1
        replace H := Option.bind_eq_some_iff.mp H
        obtain ⟨t331, A100, H⟩ := H
        replace H : (some t331) = some r := H
        have A10 := Aside0.mk A100
        clear A100
        obtain rfl := Option.some.inj H
        go_enter Try.func21, Try.ntmps21
        go_wp2_with (first | ((with_reducible refine gate_callee (f := 51) rfl ?_); refine goesL_ (some 8) rfl rfl Try.func51 (by kernel_rfl) rfl #[.slice A0 l0.length c0] rfl (by (try simp only [List.map_toArray, List.map_cons, List.map_nil]); first | done | rfl | (simp only [List.length_drop, List.length_take]; rfl)) ?_; (with_reducible refine (spec_StartOk.calls k _ _ l0 true _ ?side1 ?side2 A4.out).mono ?_); (case side1 => repeat (first | exact HR0.out | (with_reducible refine Kd.C_alloc ?_ _) | (with_reducible refine Kd.C_drewN ?_ _) | (with_reducible refine Kd.C_drew ?_))); (case side2 => exact HC0.out); rintro e w' ⟨rfl, ⟨nd, rfl⟩⟩; refine ⟨_, rfl, ?_⟩) | (go_at_call 52; (with_reducible refine (spec_RuleOk.calls k (l0.length : Int) _ _ l1 true _ ?side1 ?side2 A6.out).mono ?_); (case side1 => repeat (first | exact HR1.out | (with_reducible refine Kd.C_alloc ?_ _) | (with_reducible refine Kd.C_drewN ?_ _) | (with_reducible refine Kd.C_drew ?_))); (case side2 => exact HC1.out); rintro e w' ⟨rfl, ⟨nd, rfl⟩⟩) | (go_at_call 53; (with_reducible refine (spec_l1In.calls a2 0 6 true _ A8.out).mono ?_); rintro e w' ⟨rfl, ⟨nd, rfl⟩⟩) | ((with_reducible refine gate_callee (f := 59) rfl ?_); refine goesL_ (some 25) rfl rfl Try.func59 (by kernel_rfl) rfl #[.slice A0 l0.length c0, .slice A1 l1.length c1, .int .i64 a2] rfl (by (try simp only [List.map_toArray, List.map_cons, List.map_nil]); first | done | rfl | (simp only [List.length_drop, List.length_take]; rfl)) ?_; (with_reducible refine (spec_l4All.calls k _ _ l0 _ _ l1 a2 t331 _ ?side1 ?side2 ?side3 ?side4 A10.out).mono ?_); (case side1 => repeat (first | exact HR0.out | (with_reducible refine Kd.C_alloc ?_ _) | (with_reducible refine Kd.C_drewN ?_ _) | (with_reducible refine Kd.C_drew ?_))); (case side2 => exact HC0.out); (case side3 => repeat (first | exact HR1.out | (with_reducible refine Kd.C_alloc ?_ _) | (with_reducible refine Kd.C_drewN ?_ _) | (with_reducible refine Kd.C_drew ?_))); (case side4 => exact HC1.out); rintro e w11 ⟨rfl, hb⟩; refine ⟨_, rfl, ?_⟩; have n0_ := Aside0.mk (below_step (by repeat (first | (with_reducible first | exact HB.out | apply below_alloc | apply pw_below_drewN | apply below_drew1) | exact HB.out)) hb); clear HB; have HB := n0_; clear n0_; (try clear hb); (try clear hb2); (try clear hk); (try clear hi)))
        go_ret
        exact ⟨by first | rfl | (simp [errW_none, errW_some] <;> rfl) | (simp [*, errW_none, errW_some] <;> rfl), by repeat (first | (with_reducible first | exact HB.out | apply below_alloc | apply pw_below_drewN | apply below_drew1) | exact HB.out)⟩
      · replace c9 := Bool.eq_false_iff.mpr c9
        subst c9
        have H1 : (some (-1)) = some r := by rw [if_neg (show ¬ (false = true) by decide)] at H; exact H
        clear H
        have H := H1
        clear H1
        obtain rfl := Option.some.inj H
        go_enter Try.func21, Try.ntmps21
        go_wp2_with (first | ((with_reducible refine gate_callee (f := 51) rfl ?_); refine goesL_ (some 8) rfl rfl Try.func51 (by kernel_rfl) rfl #[.slice A0 l0.length c0] rfl (by (try simp only [List.map_toArray, List.map_cons, List.map_nil]); first | done | rfl | (simp only [List.length_drop, List.length_take]; rfl)) ?_; (with_reducible refine (spec_StartOk.calls k _ _ l0 true _ ?side1 ?side2 A4.out).mono ?_); (case side1 => repeat (first | exact HR0.out | (with_reducible refine Kd.C_alloc ?_ _) | (with_reducible refine Kd.C_drewN ?_ _) | (with_reducible refine Kd.C_drew ?_))); (case side2 => exact HC0.out); rintro e w' ⟨rfl, ⟨nd, rfl⟩⟩; refine ⟨_, rfl, ?_⟩) | (go_at_call 52; (with_reducible refine (spec_RuleOk.calls k (l0.length : Int) _ _ l1 true _ ?side1 ?side2 A6.out).mono ?_); (case side1 => repeat (first | exact HR1.out | (with_reducible refine Kd.C_alloc ?_ _) | (with_reducible refine Kd.C_drewN ?_ _) | (with_reducible refine Kd.C_drew ?_))); (case side2 => exact HC1.out); rintro e w' ⟨rfl, ⟨nd, rfl⟩⟩) | (go_at_call 53; (with_reducible refine (spec_l1In.calls a2 0 6 false _ A8.out).mono ?_); rintro e w' ⟨rfl, ⟨nd, rfl⟩⟩))
        go_ret
        exact ⟨by first | rfl | (simp [errW_none, errW_some] <;> rfl) | (simp [*, errW_none, errW_some] <;> rfl), by repeat (first | (with_reducible first | exact HB.out | apply below_alloc | apply pw_below_drewN | apply below_drew1) | exact HB.out)⟩
    · replace c7 := Bool.eq_false_iff.mpr c7
      subst c7
      have H1 : (some (-1)) = some r := by rw [if_neg (show ¬ (false = true) by decide)] at H; exact H
      clear H
      have H := H1
      clear H1
      obtain rfl := Option.some.inj H
      go_enter Try.func21, Try.ntmps21
      go_wp2_with (first | ((with_reducible refine gate_callee (f := 51) rfl ?_); refine goesL_ (some 8) rfl rfl Try.func51 (by kernel_rfl) rfl #[.slice A0 l0.length c0] rfl (by (try simp only [List.map_toArray, List.map_cons, List.map_nil]); first | done | rfl | (simp only [List.length_drop, List.length_take]; rfl)) ?_; (with_reducible refine (spec_StartOk.calls k _ _ l0 true _ ?side1 ?side2 A4.out).mono ?_); (case side1 => repeat (first | exact HR0.out | (with_reducible refine Kd.C_alloc ?_ _) | (with_reducible refine Kd.C_drewN ?_ _) | (with_reducible refine Kd.C_drew ?_))); (case side2 => exact HC0.out); rintro e w' ⟨rfl, ⟨nd, rfl⟩⟩; refine ⟨_, rfl, ?_⟩) | (go_at_call 52; (with_reducible refine (spec_RuleOk.calls k (l0.length : Int) _ _ l1 false _ ?side1 ?side2 A6.out).mono ?_); (case side1 => repeat (first | exact HR1.out | (with_reducible refine Kd.C_alloc ?_ _) | (with_reducible refine Kd.C_drewN ?_ _) | (with_reducible refine Kd.C_drew ?_))); (case side2 => exact HC1.out); rintro e w' ⟨rfl, ⟨nd, rfl⟩⟩))
      go_ret
      exact ⟨by first | rfl | (simp [errW_none, errW_some] <;> rfl) | (simp [*, errW_none, errW_some] <;> rfl), by repeat (first | (with_reducible first | exact HB.out | apply below_alloc | apply pw_below_drewN | apply below_drew1) | exact HB.out)⟩
  · replace c5 := Bool.eq_false_iff.mpr c5
    subst c5
    have H1 : (some (-1)) = some r := by rw [if_neg (show ¬ (false = true) by decide)] at H; exact H
    clear H
    have H := H1
    clear H1
    obtain rfl := Option.some.inj H
    go_enter Try.func21, Try.ntmps21
    go_wp2_with (first | ((with_reducible refine gate_callee (f := 51) rfl ?_); refine goesL_ (some 8) rfl rfl Try.func51 (by kernel_rfl) rfl #[.slice A0 l0.length c0] rfl (by (try simp only [List.map_toArray, List.map_cons, List.map_nil]); first | done | rfl | (simp only [List.length_drop, List.length_take]; rfl)) ?_; (with_reducible refine (spec_StartOk.calls k _ _ l0 false _ ?side1 ?side2 A4.out).mono ?_); (case side1 => repeat (first | exact HR0.out | (with_reducible refine Kd.C_alloc ?_ _) | (with_reducible refine Kd.C_drewN ?_ _) | (with_reducible refine Kd.C_drew ?_))); (case side2 => exact HC0.out); rintro e w' ⟨rfl, ⟨nd, rfl⟩⟩; refine ⟨_, rfl, ?_⟩))
    go_ret
    exact ⟨by first | rfl | (simp [errW_none, errW_some] <;> rfl) | (simp [*, errW_none, errW_some] <;> rfl), by repeat (first | (with_reducible first | exact HB.out | apply below_alloc | apply pw_below_drewN | apply below_drew1) | exact HB.out)⟩

-- NOT PRINTED: function 58 (impl_RuleAll_1)

/-! ### impl_RuleAll: function 18 (my own proof) -/
namespace AuxRuleAll
open Go.Proofs.Ytdplpbhbacbcmaa.Plain
theorem coloursOk_f (x : Int) : impl_coloursOk.f x = some (colB x) := by
  unfold impl_coloursOk.f colB
  by_cases h : x ≥ 1
  · rw [if_pos h]; congr 1; simp [h]
  · rw [if_neg h]; congr 1; simp; omega

theorem implUrnOk_loop (l : List Int) (hl : l.length ≤ 1000000000) (d : Nat) : ∀ i : Nat, i + d = l.length → Ev (fun k => impl_UrnOk.l0 k l l (l.length : Int) (i : Int)) ((l.drop i).all urnE && colB l.length) := by
  induction d with
  | zero =>
    intro i hi
    refine Ev.step (fun _ => rfl) ?_
    refine ev_neg (by omega) ?_
    rw [coloursOk_f, List.drop_eq_nil_of_le (by omega)]
    exact Ev.now _
  | succ d ih =>
    intro i hi
    refine Ev.step (fun _ => rfl) ?_
    refine ev_pos (by omega) (ev_pos (by omega) (ev_pos (by omega) ?_))
    rw [drop_rd l i (by omega), List.all_cons]
    by_cases h1 : rd l (i : Int) < 0
    · refine ev_pos h1 (ev_eq (Ev.now _) ?_)
      rw [show urnE (rd l (i : Int)) = false from by simp [urnE]; omega]; rfl
    · refine ev_neg h1 ?_
      by_cases h2 : rd l (i : Int) > 40
      · refine ev_pos h2 (ev_eq (Ev.now _) ?_)
        rw [show urnE (rd l (i : Int)) = false from by simp [urnE]; omega]; rfl
      · refine ev_neg h2 ?_
        rw [w64n i (by omega), show urnE (rd l (i : Int)) = true from by simp [urnE]; omega, Bool.true_and]
        exact ih (i + 1) (by omega)
theorem implUrnOk_ev (l : List Int) (hl : l.length ≤ 1000000000) : Ev (fun k => impl_UrnOk.f k l) (urnB l) := by
  unfold impl_UrnOk.f
  exact implUrnOk_loop l hl l.length 0 (by omega)

theorem implStartOk_loop (l : List Int) (hl : l.length ≤ 1000000000) (d : Nat) : ∀ i : Nat, i + d = l.length → Ev (fun k => impl_StartOk.l0 k l l (l.length : Int) (i : Int)) ((l.drop i).all (fun x => decide (x ≤ 10)) && urnB l) := by
  induction d with
  | zero =>
    intro i hi
    refine Ev.step (fun _ => rfl) ?_
    refine ev_neg (by omega) ?_
    rw [List.drop_eq_nil_of_le (by omega)]
    exact Ev.bind (implUrnOk_ev l hl) (Ev.now _)
  | succ d ih =>
    intro i hi
    refine Ev.step (fun _ => rfl) ?_
    refine ev_pos (by omega) (ev_pos (by omega) (ev_pos (by omega) ?_))
    rw [drop_rd l i (by omega), List.all_cons]
    by_cases h1 : rd l (i : Int) > 10
    · refine ev_pos h1 (ev_eq (Ev.now _) ?_)
      rw [show decide (rd l (i : Int) ≤ 10) = false from by simp; omega]; rfl
    · refine ev_neg h1 ?_
      rw [w64n i (by omega), show decide (rd l (i : Int) ≤ 10) = true from by simp; omega, Bool.true_and]
      exact ih (i + 1) (by omega)
theorem implStartOk_ev (l : List Int) (hl : l.length ≤ 1000000000) : Ev (fun k => impl_StartOk.f k l) (startB l) := by
  unfold impl_StartOk.f
  exact implStartOk_loop l hl l.length 0 (by omega)

theorem rdL_eq (xs : List (List Int)) (i : Int) : rd_L2 xs i = rowR xs i := rfl

theorem implRuleOk_inner (c : Int) (rule : List (List Int)) (i : Nat) (rest : Bool) (row : List Int) (hl : row.length ≤ 1000000000) (H : Ev (fun k => impl_RuleOk.l0 k c rule rule (rule.length : Int) ((i + 1 : Nat) : Int)) rest) (hi : i ≤ 1000000000) (d : Nat) : ∀ j : Nat, j + d = row.length →
    Ev (fun k => impl_RuleOk.l1 k c rule (i : Int) rule (rule.length : Int) (i : Int) row (row.length : Int) (j : Int)) (entsB i j (row.drop j) && rest) := by
  induction d with
  | zero =>
    intro j hj
    refine Ev.step (fun _ => rfl) ?_
    refine ev_neg (by omega) ?_
    rw [List.drop_eq_nil_of_le (by omega), w64n i (by omega)]
    exact ev_eq H (by simp [entsB])
  | succ d ih =>
    intro j hj
    refine Ev.step (fun _ => rfl) ?_
    refine ev_pos (by omega) (ev_pos (by omega) (ev_pos (by omega) ?_))
    rw [drop_rd row j (by omega), entsB]
    have no : entB i j (rd row (j : Int)) = false → (entB i j (rd row (j : Int)) && entsB i (j + 1) (row.drop (j + 1)) && rest) = false := fun h => by rw [h]; rfl
    by_cases h1 : rd row (j : Int) > 3
    · refine ev_pos h1 (ev_eq (Ev.now _) ?_)
      rw [no (by simp [entB]; omega)]
    refine ev_neg h1 ?_
    by_cases h2 : rd row (j : Int) < -1
    · refine ev_pos h2 (ev_eq (Ev.now _) ?_)
      rw [no (by simp [entB]; omega)]
    refine ev_neg h2 ?_
    have go : entB i j (rd row (j : Int)) = true → Ev (fun k => impl_RuleOk.l1 k c rule (i : Int) rule (rule.length : Int) (i : Int) row (row.length : Int) (wrap64 ((j : Int) + 1))) (entB i j (rd row (j : Int)) && entsB i (j + 1) (row.drop (j + 1)) && rest) := fun h => by
      rw [h, Bool.true_and, w64n j (by omega)]
      exact ih (j + 1) (by omega)
    by_cases h3 : rd row (j : Int) = -1
    · refine ev_pos h3 ?_
      by_cases h4 : (i : Int) = (j : Int)
      · exact ev_pos h4 (go (by simp [entB]; omega))
      · refine ev_neg h4 (ev_eq (Ev.now _) ?_)
        rw [no (by simp [entB, h3, h4])]
    · exact ev_neg h3 (go (by simp [entB]; omega))
theorem implRuleOk_loop (c : Int) (rule : List (List Int)) (hl : rule.length ≤ 100000000) (hr : ∀ r ∈ rule, r.length ≤ 1000000000) (d : Nat) : ∀ i : Nat, i + d = rule.length →
    Ev (fun k => impl_RuleOk.l0 k c rule rule (rule.length : Int) (i : Int)) (rowsB c i (rule.drop i) && (colB c && decide ((rule.length : Int) = c))) := by
  induction d with
  | zero =>
    intro i hi
    refine Ev.step (fun _ => rfl) ?_
    refine ev_neg (by omega) ?_
    rw [coloursOk_f, List.drop_eq_nil_of_le (by omega)]
    cases h : colB c
    · exact Ev.now _
    · exact ev_eq (Ev.now _) (by simp [rowsB]; rfl)
  | succ d ih =>
    intro i hi
    refine Ev.step (fun _ => rfl) ?_
    refine ev_pos (by omega) (ev_pos (by omega) (ev_pos (by omega) ?_))
    rw [rdL_eq, drop_rowR rule i (by omega), rowsB, rowB]
    by_cases h : ((rowR rule (i : Int)).length : Int) = c
    · refine ev_pos h ?_
      have := implRuleOk_inner c rule i _ (rowR rule (i : Int)) (hr _ (rowR_mem rule i (by omega))) (ih (i + 1) (by omega)) (by omega) (rowR rule (i : Int)).length 0 (by omega)
      refine ev_eq this ?_
      simp [h, Bool.and_assoc]
    · refine ev_neg h (ev_eq (Ev.now _) ?_)
      simp [h]
theorem implRuleOk_ev (c : Int) (rule : List (List Int)) (hl : rule.length ≤ 100000000) (hr : ∀ r ∈ rule, r.length ≤ 1000000000) : Ev (fun k => impl_RuleOk.f k c rule) (ruleB c rule) := by
  unfold impl_RuleOk.f
  exact implRuleOk_loop c rule hl hr rule.length 0 (by omega)

theorem ruleAsked_ev (u : List Int) (rule : List (List Int)) (hu : u.length ≤ 1000000000) (hl : rule.length ≤ 100000000) (hr : ∀ r ∈ rule, r.length ≤ 1000000000) : Ev (fun k => impl_ruleAsked.f k u rule) (startB u && ruleB u.length rule) := by
  unfold impl_ruleAsked.f
  refine Ev.bind (implStartOk_ev u hu) ?_
  cases h : startB u with
  | false => exact ev_neg (by simp) (Ev.now _)
  | true => exact ev_pos rfl (Ev.bind (implRuleOk_ev _ rule hl hr) (Ev.now _))

theorem Clone_f (l : List Int) (hl : l.length ≤ 1000000000) : slices_Clone_int_int.f l = some l := by
  unfold slices_Clone_int_int.f
  simp only [Option.bind_some]
  rw [if_pos (by simp; omega)]; rfl

theorem implAdded_set (a b : List Int) (h : b.length = a.length) (i : Nat) (hi : i < b.length) : ((addL a b).take i ++ a.drop i).set i (rd ((addL a b).take i ++ a.drop i) (i : Int) + rd b (i : Int)) = (addL a b).take (i + 1) ++ a.drop (i + 1) := by
  have hl := addL_length a b h
  have e1 : ((addL a b).take i).length = i := by rw [List.length_take]; omega
  have e2 : rd ((addL a b).take i ++ a.drop i) (i : Int) = rd a (i : Int) := by
    rw [rd_nat _ i (by rw [List.length_append, e1, List.length_drop]; omega), rd_nat a i (by omega), List.getElem_append_right (by omega)]
    simp only [e1, Nat.sub_self, List.getElem_drop, Nat.add_zero]
  rw [e2, List.set_append_right _ _ (by omega), e1, Nat.sub_self, drop_rd a i (by omega), List.set_cons_zero, take_rd (addL a b) i (by omega), addL_rd a b i (by omega) h, List.append_assoc]
  rfl
theorem implAdded_loop (a b : List Int) (h : b.length = a.length) (hl : b.length ≤ 1000) (hb : ∀ i : Nat, i < b.length → -1000000 ≤ rd a i + rd b i ∧ rd a i + rd b i ≤ 1000000) (d : Nat) : ∀ i : Nat, i + d = b.length → Ev (fun k => impl_added.l0 k ((addL a b).take i ++ a.drop i) b (b.length : Int) (i : Int)) (addL a b) := by
  have hla := addL_length a b h
  induction d with
  | zero =>
    intro i hi
    refine Ev.step (fun _ => rfl) ?_
    refine ev_neg (by omega) (ev_eq (Ev.now _) ?_)
    rw [List.take_of_length_le (by omega), List.drop_eq_nil_of_le (by omega), List.append_nil]
  | succ d ih =>
    intro i hi
    refine Ev.step (fun _ => rfl) ?_
    refine ev_pos (by omega) (ev_pos (by omega) (ev_pos (by omega) (ev_pos (by rw [List.length_append, List.length_take, List.length_drop]; omega) ?_)))
    have e1 : ((addL a b).take i).length = i := by rw [List.length_take]; omega
    have e2 : rd ((addL a b).take i ++ a.drop i) (i : Int) = rd a (i : Int) := by
      rw [rd_nat _ i (by rw [List.length_append, e1, List.length_drop]; omega), rd_nat a i (by omega), List.getElem_append_right (by omega)]
      simp only [e1, Nat.sub_self, List.getElem_drop, Nat.add_zero]
    have hbi := hb i (by omega)
    rw [w64n i (by omega), w64 (by rw [e2]; omega) (by rw [e2]; omega), show ((i : Int)).toNat = i from by simp, implAdded_set a b h i (by omega)]
    exact ih (i + 1) (by omega)
theorem implAdded_ev (a b : List Int) (h : b.length = a.length) (hl : b.length ≤ 1000) (hb : ∀ i : Nat, i < b.length → -1000000 ≤ rd a i + rd b i ∧ rd a i + rd b i ≤ 1000000) : Ev (fun k => impl_added.f k a b) (addL a b) := by
  unfold impl_added.f
  rw [Clone_f a (by omega)]
  refine Ev.bind (Ev.now _) ?_
  have := implAdded_loop a b h hl hb b.length 0 (by omega)
  simpa using this

theorem implAfter_loop {B : Int} (c : Nat) (r : List (List Int)) (hr : RuleK c r) (u w : List Int) (hn : Near B c 0 u) (hw : ∀ q ∈ w, 0 ≤ q ∧ q < (c : Int)) (hl : w.length ≤ 6) (d : Nat) : ∀ i : Nat, i + d = w.length → Ev (fun k => impl_after.l0 k r (afterL r u (w.take i)) w (w.length : Int) (i : Int)) (afterL r u w) := by
  induction d with
  | zero =>
    intro i hi
    refine Ev.step (fun _ => rfl) ?_
    refine ev_neg (by omega) (ev_eq (Ev.now _) ?_)
    rw [List.take_of_length_le (by omega)]
  | succ d ih =>
    intro i hi
    refine Ev.step (fun _ => rfl) ?_
    have hq := hw _ (rd_mem w i (by omega))
    refine ev_pos (by omega) (ev_pos (by omega) (ev_pos (by omega) (ev_pos hq.1 (ev_pos (by rw [hr.len]; exact hq.2) ?_))))
    have ha := near_after hr (w.take i) 0 u hn (fun q h => hw q (List.mem_of_mem_take h))
    have hb := near_step ha hr _ hq.1 hq.2
    have hlt : (w.take i).length ≤ 6 := by rw [List.length_take]; omega
    obtain ⟨m, hm⟩ := Int.eq_ofNat_of_zero_le hq.1
    rw [rdL_eq]
    refine Ev.bind (implAdded_ev _ _ (by rw [hm, hr.rows m (by omega), ha.1]) (by rw [hm, hr.rows m (by omega)]; have := hr.c3; omega) ?_) ?_
    · intro j hj
      rw [hm, hr.rows m (by omega)] at hj
      have h1 := ha.2.1 j hj; have h5 := ha.2.2; have h2 := hr.ent m j (by omega) hj
      rw [hm]; omega
    · rw [← afterL_snoc, ← take_rd w i (by omega), w64n i (by omega)]
      exact ih (i + 1) (by omega)
theorem implAfter_ev {B : Int} (c : Nat) (r : List (List Int)) (hr : RuleK c r) (u w : List Int) (hn : Near B c 0 u) (hw : ∀ q ∈ w, 0 ≤ q ∧ q < (c : Int)) (hl : w.length ≤ 6) : Ev (fun k => impl_after.f k u r w) (afterL r u w) := by
  unfold impl_after.f
  rw [Clone_f u (by rw [hn.1]; have := hr.c3; omega)]
  exact Ev.bind (Ev.now _) (implAfter_loop c r hr u w hn hw hl w.length 0 (by omega))

theorem implruleWays_loop {B : Int} (c : Nat) (r : List (List Int)) (hr : RuleK c r) (u w : List Int) (hn : Near B c 0 u) (hw : ∀ q ∈ w, 0 ≤ q ∧ q < (c : Int)) (hl : w.length ≤ 6) (d : Nat) : ∀ i : Nat, i + d = w.length → Ev (fun k => impl_ruleWays.l0 k u r w (waysL r u (w.take i)) w (w.length : Int) (i : Int)) (waysL r u w) := by
  induction d with
  | zero =>
    intro i hi
    refine Ev.step (fun _ => rfl) ?_
    refine ev_neg (by omega) (ev_eq (Ev.now _) ?_)
    rw [List.take_of_length_le (by omega)]
  | succ d ih =>
    intro i hi
    refine Ev.step (fun _ => rfl) ?_
    have hq := hw _ (rd_mem w i (by omega))
    have hwt : ∀ (n : Nat) (q : Int), q ∈ w.take n → 0 ≤ q ∧ q < (c : Int) := fun n q h => hw q (List.mem_of_mem_take h)
    have ha := near_after hr (w.take i) 0 u hn (hwt i)
    refine ev_pos (by omega) (ev_pos (by omega) (ev_pos (by omega) (ev_pos (by omega) ?_)))
    rw [show ((i : Int)).toNat = i from by simp]
    refine Ev.bind (implAfter_ev c r hr u (w.take i) hn (hwt i) (by rw [List.length_take]; omega)) ?_
    refine ev_pos hq.1 (ev_pos (by rw [ha.1]; exact hq.2) ?_)
    have e := waysL_snoc r (w.take i) u (rd w (i : Int))
    rw [← take_rd w i (by omega)] at e
    have hb := waysL_bound' hr (w.take (i + 1)) u hn (by rw [List.length_take]; omega) (hwt (i + 1))
    rw [← e, w64 (x := waysL r u (w.take (i + 1))) (by omega) (by omega), w64n i (by omega)]
    by_cases h0 : waysL r u (w.take (i + 1)) = 0
    · refine ev_pos h0 (ev_eq (Ev.now _) ?_)
      have := waysL_append r (w.take (i + 1)) (w.drop (i + 1)) u
      rw [List.take_append_drop, h0, Int.zero_mul] at this
      exact this.symm
    · exact ev_neg h0 (ih (i + 1) (by omega))
theorem implruleWays_ev {B : Int} (c : Nat) (r : List (List Int)) (hr : RuleK c r) (u w : List Int) (hn : Near B c 0 u) (hw : ∀ q ∈ w, 0 ≤ q ∧ q < (c : Int)) (hl : w.length ≤ 6) : Ev (fun k => impl_ruleWays.f k u r w) (waysL r u w) := by
  unfold impl_ruleWays.f
  exact implruleWays_loop c r hr u w hn hw hl w.length 0 (by omega)

end AuxRuleAll
section
open Go.Proofs.Ytdplpbhbacbcmaa.Plain
def impl_RuleAll.f (k : Nat) (l0 : List Int) (l1 : List (List Int)) (a2 : Int) : Option (Int) := if l0.length ≤ 1000000000 ∧ l1.length ≤ 100000000 ∧ ∀ r ∈ l1, r.length ≤ 1000000000 then some (ruleAllP l0 l1 a2) else none
theorem impl_RuleAll.mono : ∀ a0 a1 a2 k, LeO (impl_RuleAll.f k a0 a1 a2) (impl_RuleAll.f (k + 1) a0 a1 a2) := fun _ _ _ _ => LeO.refl _
theorem impl_RuleAll.calls (k : Nat) (A0 : Option Addr) (c0 : Nat) (l0 : List Int) (A1 : Option Addr) (c1 : Nat) (l1 : List (List Int)) (a2 : Int) (r : Int) (w : World) (hr0 : Kd.C (Kd.int .i64) w A0 l0.length l0) (hc0 : l0.length ≤ c0) (hr1 : Kd.C (Kd.slice 3 (Kd.int .i64)) w A1 l1.length l1) (hc1 : l1.length ≤ c1) (h : impl_RuleAll.f k l0 l1 a2 = some r) :
    Calls Try.prog 18 #[.slice A0 l0.length c0, .slice A1 l1.length c1, .int .i64 a2] w fun e w' => e = .returned (.int .i64 r) ∧ Below w.heap.size w w' := by
  unfold impl_RuleAll.f at h
  by_cases hs : l0.length ≤ 1000000000 ∧ l1.length ≤ 100000000 ∧ ∀ r ∈ l1, r.length ≤ 1000000000
  case neg => rw [if_neg hs] at h; cases h
  rw [if_pos hs] at h
  obtain rfl := Option.some.inj h
  obtain ⟨ka, hka⟩ := Ev.rounds (AuxRuleAll.ruleAsked_ev l0 l1 hs.1 hs.2.1 hs.2.2)
  refine (Closure.ruleAll_calls w A0 l0.length c0 A1 l1.length c1 a2 (startB l0 && ruleB l0.length l1) (waysL l1 l0) (fun ha => (asked_known ha).2.2.2.1) ?_ ?_).mono ?_
  · intro W hb
    exact (impl_ruleAsked.calls ka A0 c0 l0 A1 c1 l1 _ W (Kd.C_below hr0 hb) hc0 (Kd.C_below hr1 hb) hc1 hka).mono fun e w' ⟨he, hd⟩ => ⟨he, hd.below⟩
  · intro ha ws Aw cw W hl h6 hq hb hC hcw
    obtain ⟨hk, n1, _⟩ := asked_known ha
    obtain ⟨kr, hkr⟩ := Ev.rounds (AuxRuleAll.implruleWays_ev l0.length l1 hk l0 ws n1 hq (by omega))
    exact impl_ruleWays.calls kr A0 c0 l0 A1 c1 l1 Aw cw ws _ W (Kd.C_below hr0 hb) hc0 (Kd.C_below hr1 hb) hc1 hC hcw hkr
  · rintro e w' ⟨rfl, hb⟩
    refine ⟨?_, hb⟩
    unfold ruleAllP
    by_cases hc : (startB l0 && ruleB l0.length l1) = true ∧ 0 ≤ a2 ∧ a2 ≤ 6
    · rw [if_pos hc, if_pos hc, ruleAll_wrap hc.1 _ (by omega)]
    · rw [if_neg hc, if_neg hc]
end

/-! ### impl_TotalOf: function 19 -/
def impl_TotalOf.f (k : Nat) (l0 : List Int) : Option (Int) := (impl_UrnOk.f k l0).bind fun t336 => (if t336 = true then ((impl_sum.f k l0).bind fun t337 => (some t337)) else (some (-1)))
theorem impl_TotalOf.mono : ∀ a0 k, LeO (impl_TotalOf.f k a0) (impl_TotalOf.f (k + 1) a0) := by
  intro a0 k
  unfold impl_TotalOf.f
  repeat' first
      | (with_reducible exact impl_UrnOk.mono _ _)
      | (with_reducible exact impl_sum.mono _ _)
      | (with_reducible exact LeO.refl _)
      | (with_reducible exact LeO.none _)
      | (with_reducible refine LeO.ite ?_ ?_)
      | (with_reducible refine LeO.bind ?_ (fun _ => ?_))
      | exact impl_UrnOk.mono _ _
      | exact impl_sum.mono _ _
      | exact LeO.none _
      | refine LeO.ite ?_ ?_
      | refine LeO.bind ?_ (fun _ => ?_)
set_option maxHeartbeats 8000000 in
set_option maxRecDepth 100000 in
theorem impl_TotalOf.calls (k : Nat) (A0 : Option Addr) (c0 : Nat) (l0 : List Int) (r : Int) (w : World) (hr0 : Kd.C (Kd.int .i64) w A0 l0.length l0) (hc0 : l0.length ≤ c0) (h : impl_TotalOf.f k l0 = some r) :
    Calls Try.prog 19 #[.slice A0 l0.length c0] w fun e w' => e = .returned (.int .i64 r) ∧ Drawn0 w w' := by
  have HR0 := Aside0.mk hr0
  have HC0 := Aside0.mk hc0
  clear hr0 hc0
  have H : ((impl_UrnOk.f k l0).bind fun t336 => (if t336 = true then ((impl_sum.f k l0).bind fun t337 => (some t337)) else (some (-1)))) = some r := h
  clear h
  replace H := Option.bind_eq_some_iff.mp H
  obtain ⟨t336, A20, H⟩ := H
  replace H : (if t336 = true then ((impl_sum.f k l0).bind fun t337 => (some t337)) else (some (-1))) = some r := H
  have A2 := Aside0.mk A20
  clear A20
  by_cases c3 : t336 = true
  · subst c3
    have H1 : ((impl_sum.f k l0).bind fun t337 => (some t337)) = some r := by rw [if_pos rfl] at H; exact H
    clear H
    have H := H1
    clear H1
    replace H := Option.bind_eq_some_iff.mp H
    obtain ⟨t337, A40, H⟩ := H
    replace H : (some t337) = some r := H
    have A4 := Aside0.mk A40
    clear A40
    obtain rfl := Option.some.inj H
    go_enter Try.func19, Try.ntmps19
    go_wp2_with (first | ((with_reducible refine gate_callee (f := 55) rfl ?_); refine goesL_ (some 4) rfl rfl Try.func55 (by kernel_rfl) rfl #[.slice A0 l0.length c0] rfl (by (try simp only [List.map_toArray, List.map_cons, List.map_nil]); first | done | rfl | (simp only [List.length_drop, List.length_take]; rfl)) ?_; (with_reducible refine (impl_UrnOk.calls k _ _ l0 true _ ?side1 ?side2 A2.out).mono ?_); (case side1 => repeat (first | exact HR0.out | (with_reducible refine Kd.C_alloc ?_ _) | (with_reducible refine Kd.C_drewN ?_ _) | (with_reducible refine Kd.C_drew ?_))); (case side2 => exact HC0.out); rintro e w' ⟨rfl, ⟨nd, rfl⟩⟩; refine ⟨_, rfl, ?_⟩) | ((with_reducible refine gate_callee (f := 57) rfl ?_); refine goesL_ (some 7) rfl rfl Try.func57 (by kernel_rfl) rfl #[.slice A0 l0.length c0] rfl (by (try simp only [List.map_toArray, List.map_cons, List.map_nil]); first | done | rfl | (simp only [List.length_drop, List.length_take]; rfl)) ?_; (with_reducible refine (impl_sum.calls k _ _ l0 t337 _ ?side1 ?side2 A4.out).mono ?_); (case side1 => repeat (first | exact HR0.out | (with_reducible refine Kd.C_alloc ?_ _) | (with_reducible refine Kd.C_drewN ?_ _) | (with_reducible refine Kd.C_drew ?_))); (case side2 => exact HC0.out); rintro e w' ⟨rfl, ⟨nd, rfl⟩⟩; refine ⟨_, rfl, ?_⟩))
    go_ret
    exact ⟨by first | rfl | (simp; done) | (simp [*]; done), by repeat (first | exact Drawn0.refl _ | apply Drawn0.step)⟩
  · replace c3 := Bool.eq_false_iff.mpr c3
    subst c3
    have H1 : (some (-1)) = some r := by rw [if_neg (show ¬ (false = true) by decide)] at H; exact H
    clear H
    have H := H1
    clear H1
    obtain rfl := Option.some.inj H
    go_enter Try.func19, Try.ntmps19
    go_wp2_with (first | ((with_reducible refine gate_callee (f := 55) rfl ?_); refine goesL_ (some 4) rfl rfl Try.func55 (by kernel_rfl) rfl #[.slice A0 l0.length c0] rfl (by (try simp only [List.map_toArray, List.map_cons, List.map_nil]); first | done | rfl | (simp only [List.length_drop, List.length_take]; rfl)) ?_; (with_reducible refine (impl_UrnOk.calls k _ _ l0 false _ ?side1 ?side2 A2.out).mono ?_); (case side1 => repeat (first | exact HR0.out | (with_reducible refine Kd.C_alloc ?_ _) | (with_reducible refine Kd.C_drewN ?_ _) | (with_reducible refine Kd.C_drew ?_))); (case side2 => exact HC0.out); rintro e w' ⟨rfl, ⟨nd, rfl⟩⟩; refine ⟨_, rfl, ?_⟩))
    go_ret
    exact ⟨by first | rfl | (simp; done) | (simp [*]; done), by repeat (first | exact Drawn0.refl _ | apply Drawn0.step)⟩

end Go.Proofs.Ytdplpbhbacbcmaa.PFnBallSum
