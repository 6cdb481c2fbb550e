/- The law FnExactShareSum: for every input the printed function of the law answers true. No condition. -/
import Derived.Test.YtdplpbhbacbcmaaPFnExactShareSumx6
import Derived.Test.YtdplpbhbacbcmaaPlain
set_option linter.unusedVariables false
set_option linter.unusedSimpArgs false
namespace Go.Proofs.Ytdplpbhbacbcmaa.Pure
open Go.RowKit Go.Proofs.Ytdplpbhbacbcmaa.PFnExactShareSum Go.Proofs.YtdplpbhbacbcmaaW.PrintWords Go.Proofs.YtdplpbhbacbcmaaW.PrintLast Go.Proofs.YtdplpbhbacbcmaaW.PrintMore Go.Proofs.Ytdplpbhbacbcmaa.Plain

theorem l1In_f (x a b : Int) : spec_l1In.f x a b = some (inB x a b) := by
  unfold spec_l1In.f inB
  by_cases h : x ≥ a
  · rw [if_pos h]; congr 1; simp [h]
  · rw [if_neg h]; congr 1; simp; omega

theorem toIntS_set (l : List Int) (i : Nat) (h : i < l.length) : (l.take i ++ List.replicate (l.length - i) 0).set i (rd l (i : Int)) = l.take (i + 1) ++ List.replicate (l.length - (i + 1)) 0 := by
  rw [take_rd l i h, List.set_append_right _ _ (by rw [List.length_take]; omega)]
  have e : l.length - i = (l.length - (i + 1)) + 1 := by omega
  rw [e, List.replicate_succ, List.length_take, Nat.min_eq_left (by omega), Nat.sub_self, List.set_cons_zero, List.append_assoc]
  rfl
theorem toIntS_loop (l : List Int) (hl : l.length ≤ 1000000000) (d : Nat) : ∀ i : Nat, i + d = l.length → Ev (fun k => laws_toIntS.l0 k l (l.take i ++ List.replicate (l.length - i) 0) (i : Int)) l := by
  induction d with
  | zero =>
    intro i hi
    refine Ev.step (fun _ => rfl) ?_
    refine ev_neg (by omega) ?_
    have : i = l.length := by omega
    subst this
    refine ev_eq (Ev.now _) ?_
    simp
  | succ d ih =>
    intro i hi
    refine Ev.step (fun _ => rfl) ?_
    refine ev_pos (by omega) (ev_pos (by omega) (ev_pos (by simp; omega) ?_))
    rw [show ((i : Int)).toNat = i from by simp, toIntS_set l i (by omega), w64n i (by omega)]
    exact ih (i + 1) (by omega)
theorem toIntS_ev (l : List Int) (hl : l.length ≤ 1000000000) : Ev (fun k => laws_toIntS.f k l) l := by
  unfold laws_toIntS.f
  refine ev_pos (by omega) (ev_pos (by simp; omega) ?_)
  have := toIntS_loop l hl l.length 0 (by omega)
  simpa using this

theorem eqIntS_loop (l : List Int) (hl : l.length ≤ 1000000000) (d : Nat) : ∀ i : Nat, i + d = l.length → Ev (fun k => laws_eqIntS.l0 k l l (i : Int)) true := by
  induction d with
  | zero =>
    intro i hi
    refine Ev.step (fun _ => rfl) ?_
    exact ev_neg (by omega) (Ev.now _)
  | succ d ih =>
    intro i hi
    refine Ev.step (fun _ => rfl) ?_
    refine ev_pos (by omega) (ev_pos (by omega) (ev_pos (by omega) (ev_pos rfl ?_)))
    rw [w64n i (by omega)]
    exact ih (i + 1) (by omega)
theorem eqIntS_ev (l : List Int) (hl : l.length ≤ 1000000000) : Ev (fun k => laws_eqIntS.f k l l) true := by
  unfold laws_eqIntS.f
  exact ev_pos rfl (eqIntS_loop l hl l.length 0 (by omega))

theorem specUrnOk_loop (l : List Int) (hl : l.length ≤ 1000000000) (d : Nat) : ∀ i : Nat, i + d = l.length → Ev (fun k => spec_UrnOk.l0 k l (i : Int)) ((l.drop i).all urnE && colB l.length) := by
  induction d with
  | zero =>
    intro i hi
    refine Ev.step (fun _ => rfl) ?_
    refine ev_neg (by omega) ?_
    rw [l1In_f, List.drop_eq_nil_of_le (by omega)]
    exact Ev.now _
  | succ d ih =>
    intro i hi
    refine Ev.step (fun _ => rfl) ?_
    refine ev_pos (by omega) (ev_pos (by omega) ?_)
    rw [drop_rd l i (by omega), List.all_cons, l1In_f, show inB (rd l (i : Int)) 0 40 = urnE (rd l (i : Int)) from rfl]
    cases h : urnE (rd l (i : Int)) with
    | false => exact Ev.now _
    | true =>
      simp only [Option.bind_some, if_true, Bool.true_and]
      rw [w64n i (by omega)]
      exact ih (i + 1) (by omega)
theorem specUrnOk_ev (l : List Int) (hl : l.length ≤ 1000000000) : Ev (fun k => spec_UrnOk.f k l) (urnB l) := by
  unfold spec_UrnOk.f
  exact specUrnOk_loop l hl l.length 0 (by omega)

theorem specStartOk_loop (l : List Int) (hl : l.length ≤ 1000000000) (d : Nat) : ∀ i : Nat, i + d = l.length → Ev (fun k => spec_StartOk.l0 k l (i : Int)) ((l.drop i).all (fun x => decide (x ≤ 10)) && urnB l) := by
  induction d with
  | zero =>
    intro i hi
    refine Ev.step (fun _ => rfl) ?_
    refine ev_neg (by omega) ?_
    rw [List.drop_eq_nil_of_le (by omega)]
    exact Ev.bind (specUrnOk_ev l hl) (Ev.now _)
  | succ d ih =>
    intro i hi
    refine Ev.step (fun _ => rfl) ?_
    refine ev_pos (by omega) (ev_pos (by omega) ?_)
    rw [drop_rd l i (by omega), List.all_cons]
    by_cases h1 : rd l (i : Int) > 10
    · refine ev_pos h1 (ev_eq (Ev.now _) ?_)
      rw [show decide (rd l (i : Int) ≤ 10) = false from by simp; omega]; rfl
    · refine ev_neg h1 ?_
      rw [w64n i (by omega), show decide (rd l (i : Int) ≤ 10) = true from by simp; omega, Bool.true_and]
      exact ih (i + 1) (by omega)
theorem specStartOk_ev (l : List Int) (hl : l.length ≤ 1000000000) : Ev (fun k => spec_StartOk.f k l) (startB l) := by
  unfold spec_StartOk.f
  exact specStartOk_loop l hl l.length 0 (by omega)

theorem l5Shares_loop (c m n : Nat) (s : Int) (hc : c ≤ 3) (hs : -1 ≤ s ∧ s ≤ 3) (hr : RuleK c (sameL c s c)) (q : Int) (q0 : 0 ≤ q) (q1 : q < (c : Int)) (u : List Int) (hn : Near 10 c n u) (hu : ∀ i : Nat, i < c → 0 ≤ rd u i) (h6 : n + (m + 1) ≤ 6) (ih : ∀ v, Near 10 c (n + 1) v → (∀ i : Nat, i < c → 0 ≤ rd v i) → Ev (fun k => spec_l5Shares.f k v s (m : Int) q) (wsum c m (ballF (sameL c s c) q v))) (d : Nat) : ∀ i : Nat, i + d = c → Ev (fun k => spec_l5Shares.l0 k u s ((m + 1 : Nat) : Int) q (sumN (fun k => mx 0 (rd u (k : Int)) * wsum c m (ballF (sameL c s c) q (addL u (rowR (sameL c s c) (k : Int))))) i) (i : Int)) (sumN (fun k => mx 0 (rd u (k : Int)) * wsum c m (ballF (sameL c s c) q (addL u (rowR (sameL c s c) (k : Int))))) c) := by
  have hT : ∀ i : Nat, i < c → 0 ≤ mx 0 (rd u (i : Int)) * wsum c m (ballF (sameL c s c) q (addL u (rowR (sameL c s c) (i : Int)))) ∧ mx 0 (rd u (i : Int)) * wsum c m (ballF (sameL c s c) q (addL u (rowR (sameL c s c) (i : Int)))) ≤ 58 * (729 * (38068692544 * 58)) := by
    intro i hi
    have h1 := near_rd hn (i : Int) (by omega) (by omega)
    by_cases hp : rd u (i : Int) > 0
    · have hv := pos_step hn.1 hr hu (i : Int) (by omega) (by omega) (by omega)
      rw [mx_r 0 _ (by omega)]
      have h3 := wsum_small c m hc (by omega) (38068692544 * 58) (by omega) (ballF (sameL c s c) q (addL u (rowR (sameL c s c) (i : Int)))) (fun w hl hw => balls58 hr q q0 q1 w (n + 1) _ (near_step hn hr (i : Int) (by omega) (by omega)) hv (by omega) hw)
      exact mulb (by omega) (by omega) h3.1 h3.2
    · rw [mx_l 0 _ (by omega), Int.zero_mul]
      omega
  induction d with
  | zero =>
    intro i hi
    refine Ev.step (fun _ => rfl) ?_
    obtain rfl : i = c := by omega
    exact ev_neg (by rw [hn.1]; omega) (Ev.now _)
  | succ d ihd =>
    intro i hi
    refine Ev.step (fun _ => rfl) ?_
    refine ev_pos (by rw [hn.1]; omega) (ev_pos (by omega) ?_)
    have h1 := hT i (by omega)
    have h2 := sumN_bound _ _ i (fun j hj => hT j (by omega))
    have h3 : (i : Int) * (58 * (729 * (38068692544 * 58))) ≤ 3 * (58 * (729 * (38068692544 * 58))) := Int.mul_le_mul_of_nonneg_right (by omega) (by omega)
    have hnx := ihd (i + 1) (by omega)
    simp only [sumN] at hnx
    by_cases hp : rd u (i : Int) > 0
    · rw [mx_r 0 _ (by omega)] at h1 hnx
      have hx := near_rd hn (i : Int) (by omega) (by omega)
      have hnl := hn.1
      refine ev_pos hp ?_
      simp only [Option.bind_some, List.nil_append, List.length_nil, Nat.zero_add]
      refine ev_pos (by omega) (ev_pos (by omega) ?_)
      have e := addL_same c s u hn.1 (i : Int) (by omega) (by omega)
      rw [show wrap64 (((m + 1 : Nat) : Int) - 1) = (m : Int) from by rw [w64 (by omega) (by omega)]; omega, w64 (x := rd u (i : Int) + s) (by omega) (by omega), ← e]
      refine Ev.bind (ih _ (near_step hn hr (i : Int) (by omega) (by omega)) (pos_step hn.1 hr hu (i : Int) (by omega) (by omega) (by omega))) ?_
      rw [w64 (x := rd u (i : Int) * _) (by omega) (by omega), w64 (x := _ + _) (by omega) (by omega), w64n i (by omega)]
      exact hnx
    · rw [mx_l 0 _ (by omega), Int.zero_mul, Int.add_zero] at hnx
      refine ev_neg hp ?_
      rw [w64n i (by omega)]
      exact hnx
theorem l5Shares_ev (c : Nat) (s : Int) (hc : c ≤ 3) (hs : -1 ≤ s ∧ s ≤ 3) (hr : RuleK c (sameL c s c)) (q : Int) (q0 : 0 ≤ q) (q1 : q < (c : Int)) : ∀ (m n : Nat) (u : List Int), Near 10 c n u → (∀ i : Nat, i < c → 0 ≤ rd u i) → n + m ≤ 6 → Ev (fun k => spec_l5Shares.f k u s (m : Int) q) (wsum c m (ballF (sameL c s c) q u)) := by
  intro m
  induction m with
  | zero =>
    intro n u hn hu h6
    refine Ev.step (fun _ => by rw [spec_l5Shares.f]) ?_
    refine ev_pos rfl (ev_pos q0 (ev_pos (by rw [hn.1]; exact q1) (ev_eq (Ev.now _) ?_)))
    simp [wsum, ballF, waysL, afterL]
  | succ m ih =>
    intro n u hn hu h6
    refine Ev.step (fun _ => by rw [spec_l5Shares.f]) ?_
    refine ev_neg (by omega) ?_
    rw [wsum_balls]
    exact l5Shares_loop c m n s hc hs hr q q0 q1 u hn hu h6 (fun v hv hw => ih (n + 1) v hv hw (by omega)) c 0 (by omega)

theorem specShareSum_ev (u : List Int) (s m q : Int) (hu : u.length ≤ 1000000000) : Ev (fun k => spec_ShareSum.f k u s m q) (ballSumP u (sameP u.length s) m q) := by
  unfold spec_ShareSum.f ballSumP
  refine Ev.bind (specStartOk_ev u hu) ?_
  by_cases h1 : startB u = true
  case neg =>
    refine ev_neg h1 (ev_eq (Ev.now _) ?_)
    rw [if_neg (by simp [h1])]
  obtain ⟨n1, n2, n3, n4, _⟩ := near_start h1
  refine ev_pos h1 ?_
  simp only [l1In_f, Option.bind_some]
  by_cases h2 : -1 ≤ s ∧ s ≤ 3
  case neg =>
    refine ev_neg (by simpa [inB] using h2) (ev_eq (Ev.now _) ?_)
    have e : sameP u.length s = [] := by unfold sameP; rw [if_neg (fun h => h2 h.2)]
    have e2 : ruleB u.length [] = false := by simp [ruleB]; omega
    rw [e, if_neg (by rw [e2]; simp)]
  refine ev_pos (by simpa [inB] using h2) ?_
  have e : sameP u.length s = sameL u.length s u.length := by unfold sameP; rw [if_pos ⟨by omega, h2⟩, Int.toNat_natCast]
  have h5 := (same_rule u.length s n2 n3 h2.1 h2.2).1
  rw [e]
  by_cases h3 : 0 ≤ m ∧ m ≤ 6
  case neg =>
    refine ev_neg (by simpa [inB] using h3) (ev_eq (Ev.now _) ?_)
    rw [if_neg (fun h => h3 h.2.1)]
  refine ev_pos (by simpa [inB] using h3) ?_
  have ha : (startB u && ruleB u.length (sameL u.length s u.length)) = true := by rw [h1, h5]; rfl
  obtain ⟨hk, _, _, _, n5⟩ := asked_known ha
  rw [w64 (x := (u.length : Int) - 1) (by omega) (by omega)]
  by_cases h4 : 0 ≤ q ∧ q < (u.length : Int)
  case neg =>
    refine ev_neg (by simp [inB]; omega) (ev_eq (Ev.now _) ?_)
    rw [if_neg (fun h => h4 h.2.2)]
  refine ev_pos (by simp [inB]; omega) ?_
  obtain ⟨n, rfl⟩ := Int.eq_ofNat_of_zero_le h3.1
  rw [if_pos ⟨ha, h3, h4⟩, Int.toNat_natCast]
  exact Ev.bind (l5Shares_ev _ s n3 h2 hk q h4.1 h4.2 n 0 u n1 n5 (by omega)) (Ev.now _)

theorem implShareSum_ev (u : List Int) (s m q : Int) (hu : u.length ≤ 1000000000) : Ev (fun k => impl_ShareSum.f k u s m q) (ballSumP u (sameP u.length s) m q) := by
  unfold impl_ShareSum.f
  exact ev_pos hu (Ev.now _)

theorem FnExactShareSum : laws_FnExactShareSum.Pure := by
  intro u s m q hu0 _ _ _ _ _
  refine Ev.rounds (g := fun k => laws_FnExactShareSum.f k u s m q) ?_
  unfold laws_FnExactShareSum.f
  by_cases h1 : (u.length : Int) > 1048576
  · exact ev_pos h1 (Ev.now _)
  refine ev_neg h1 ?_
  have hu : u.length ≤ 1000000000 := by omega
  have tu := toIntS_ev u hu
  exact Ev.bind tu (Ev.bind (specShareSum_ev u s m q hu) (Ev.bind tu (Ev.bind (implShareSum_ev u s m q hu) (ev_pos rfl (Ev.bind tu (Ev.bind (eqIntS_ev u hu) (ev_pos rfl (Ev.now _))))))))

end Go.Proofs.Ytdplpbhbacbcmaa.Pure
