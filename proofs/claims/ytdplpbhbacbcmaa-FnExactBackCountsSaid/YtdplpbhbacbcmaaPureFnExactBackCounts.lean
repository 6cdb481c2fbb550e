/- The law FnExactBackCounts: for every input the printed function of the law answers true. No condition. -/
import Derived.Test.YtdplpbhbacbcmaaPFnExactBackCountsx4
import Derived.Test.YtdplpbhbacbcmaaPlain
set_option linter.unusedVariables false
set_option linter.unusedSimpArgs false
namespace Go.Proofs.Ytdplpbhbacbcmaa.Pure
open Go.RowKit Go.Proofs.Ytdplpbhbacbcmaa.PFnExactBackCounts Go.Proofs.YtdplpbhbacbcmaaW.PrintWords Go.Proofs.YtdplpbhbacbcmaaW.PrintLast Go.Proofs.YtdplpbhbacbcmaaW.PrintMore Go.Proofs.Ytdplpbhbacbcmaa.Plain

theorem l1In_f (x a b : Int) : spec_l1In.f x a b = some (inB x a b) := by
  unfold spec_l1In.f inB
  by_cases h : x ≥ a
  · rw [if_pos h]; congr 1; simp [h]
  · rw [if_neg h]; congr 1; simp; omega

theorem toIntS_set (l : List Int) (i : Nat) (h : i < l.length) : (l.take i ++ List.replicate (l.length - i) 0).set i (rd l (i : Int)) = l.take (i + 1) ++ List.replicate (l.length - (i + 1)) 0 := by
  rw [take_rd l i h, List.set_append_right _ _ (by rw [List.length_take]; omega)]
  have e : l.length - i = (l.length - (i + 1)) + 1 := by omega
  rw [e, List.replicate_succ, List.length_take, Nat.min_eq_left (by omega), Nat.sub_self, List.set_cons_zero, List.append_assoc]
  rfl
theorem toIntS_loop (l : List Int) (hl : l.length ≤ 1000000000) (d : Nat) : ∀ i : Nat, i + d = l.length → Ev (fun k => laws_toIntS.l0 k l (l.take i ++ List.replicate (l.length - i) 0) (i : Int)) l := by
  induction d with
  | zero =>
    intro i hi
    refine Ev.step (fun _ => rfl) ?_
    refine ev_neg (by omega) ?_
    have : i = l.length := by omega
    subst this
    refine ev_eq (Ev.now _) ?_
    simp
  | succ d ih =>
    intro i hi
    refine Ev.step (fun _ => rfl) ?_
    refine ev_pos (by omega) (ev_pos (by omega) (ev_pos (by simp; omega) ?_))
    rw [show ((i : Int)).toNat = i from by simp, toIntS_set l i (by omega), w64n i (by omega)]
    exact ih (i + 1) (by omega)
theorem toIntS_ev (l : List Int) (hl : l.length ≤ 1000000000) : Ev (fun k => laws_toIntS.f k l) l := by
  unfold laws_toIntS.f
  refine ev_pos (by omega) (ev_pos (by simp; omega) ?_)
  have := toIntS_loop l hl l.length 0 (by omega)
  simpa using this

theorem eqIntS_loop (l : List Int) (hl : l.length ≤ 1000000000) (d : Nat) : ∀ i : Nat, i + d = l.length → Ev (fun k => laws_eqIntS.l0 k l l (i : Int)) true := by
  induction d with
  | zero =>
    intro i hi
    refine Ev.step (fun _ => rfl) ?_
    exact ev_neg (by omega) (Ev.now _)
  | succ d ih =>
    intro i hi
    refine Ev.step (fun _ => rfl) ?_
    refine ev_pos (by omega) (ev_pos (by omega) (ev_pos (by omega) (ev_pos rfl ?_)))
    rw [w64n i (by omega)]
    exact ih (i + 1) (by omega)
theorem eqIntS_ev (l : List Int) (hl : l.length ≤ 1000000000) : Ev (fun k => laws_eqIntS.f k l l) true := by
  unfold laws_eqIntS.f
  exact ev_pos rfl (eqIntS_loop l hl l.length 0 (by omega))

theorem specUrnOk_loop (l : List Int) (hl : l.length ≤ 1000000000) (d : Nat) : ∀ i : Nat, i + d = l.length → Ev (fun k => spec_UrnOk.l0 k l (i : Int)) ((l.drop i).all urnE && colB l.length) := by
  induction d with
  | zero =>
    intro i hi
    refine Ev.step (fun _ => rfl) ?_
    refine ev_neg (by omega) ?_
    rw [l1In_f, List.drop_eq_nil_of_le (by omega)]
    exact Ev.now _
  | succ d ih =>
    intro i hi
    refine Ev.step (fun _ => rfl) ?_
    refine ev_pos (by omega) (ev_pos (by omega) ?_)
    rw [drop_rd l i (by omega), List.all_cons, l1In_f, show inB (rd l (i : Int)) 0 40 = urnE (rd l (i : Int)) from rfl]
    cases h : urnE (rd l (i : Int)) with
    | false => exact Ev.now _
    | true =>
      simp only [Option.bind_some, if_true, Bool.true_and]
      rw [w64n i (by omega)]
      exact ih (i + 1) (by omega)
theorem specUrnOk_ev (l : List Int) (hl : l.length ≤ 1000000000) : Ev (fun k => spec_UrnOk.f k l) (urnB l) := by
  unfold spec_UrnOk.f
  exact specUrnOk_loop l hl l.length 0 (by omega)

theorem l1Total_loop (l : List Int) (hl : l.length ≤ 1000) (B : Int) (hB : 0 ≤ B) (hB2 : B ≤ 1000000000) (hb : ∀ x ∈ l, -B ≤ x ∧ x ≤ B) (d : Nat) : ∀ i : Nat, i + d = l.length → Ev (fun k => spec_l1Total.l0 k l (tot (l.take i)) (i : Int)) (tot l) := by
  induction d with
  | zero =>
    intro i hi
    refine Ev.step (fun _ => rfl) ?_
    refine ev_neg (by omega) (ev_eq (Ev.now _) ?_)
    rw [List.take_of_length_le (by omega)]
  | succ d ih =>
    intro i hi
    refine Ev.step (fun _ => rfl) ?_
    refine ev_pos (by omega) (ev_pos (by omega) ?_)
    have h1 := tot_abs (l.take i) B hB (fun x hx => hb x (List.mem_of_mem_take hx))
    have h2 := hb _ (rd_mem l i (by omega))
    have h3 : ((l.take i).length : Int) * B ≤ 1000 * 1000000000 := (mulb (by omega) (by rw [List.length_take]; omega) hB hB2).2
    have h4 : tot (l.take i) + rd l (i : Int) = tot (l.take (i + 1)) := by rw [take_rd l i (by omega), tot_append]; simp [tot]
    rw [w64n i (by omega), w64 (by omega) (by omega), h4]
    exact ih (i + 1) (by omega)
theorem l1Total_ev (l : List Int) (hl : l.length ≤ 1000) (hb : ∀ x ∈ l, -1000000000 ≤ x ∧ x ≤ 1000000000) : Ev (fun k => spec_l1Total.f k l) (tot l) := by
  unfold spec_l1Total.f
  exact l1Total_loop l hl 1000000000 (by omega) (by omega) hb l.length 0 (by omega)

theorem specCountRowOk_loop (c : Int) (l : List Int) (hl : l.length ≤ 1000000000) (d : Nat) : ∀ i : Nat, i + d = l.length → (∀ x ∈ l.take i, 0 ≤ x ∧ x ≤ 6) → Ev (fun k => spec_CountRowOk.l0 k c l (i : Int)) ((l.drop i).all (fun x => inB x 0 6) && (colB c && (decide ((l.length : Int) = c) && decide (tot l ≤ 6)))) := by
  induction d with
  | zero =>
    intro i hi hx
    refine Ev.step (fun _ => rfl) ?_
    refine ev_neg (by omega) ?_
    rw [l1In_f, List.drop_eq_nil_of_le (by omega), show inB c 1 3 = colB c from rfl]
    cases h : colB c
    · exact Ev.now _
    · simp only [Option.bind_some, if_true, List.all_nil, Bool.true_and]
      by_cases h1 : (l.length : Int) = c
      · refine ev_pos h1 ?_
        have hc : 1 ≤ c ∧ c ≤ 3 := by simpa [colB] using h
        rw [List.take_of_length_le (by omega)] at hx
        refine ev_eq (Ev.bind (l1Total_ev l (by omega) (fun x hx' => by have := hx x hx'; omega)) (Ev.now _)) ?_
        simp [h1]
      · refine ev_neg h1 (ev_eq (Ev.now _) ?_)
        simp [h1]
  | succ d ih =>
    intro i hi hx
    refine Ev.step (fun _ => rfl) ?_
    refine ev_pos (by omega) (ev_pos (by omega) ?_)
    rw [drop_rd l i (by omega), List.all_cons, l1In_f]
    cases h : inB (rd l (i : Int)) 0 6 with
    | false => exact Ev.now _
    | true =>
      simp only [Option.bind_some, if_true, Bool.true_and]
      rw [w64n i (by omega)]
      refine ih (i + 1) (by omega) ?_
      intro x hx'
      rw [take_rd l i (by omega)] at hx'
      rcases List.mem_append.1 hx' with hx' | hx'
      · exact hx x hx'
      · have e : x = rd l (i : Int) := by simpa using hx'
        subst e
        simpa [inB] using h
theorem specCountRowOk_ev (c : Int) (l : List Int) (hl : l.length ≤ 1000000000) : Ev (fun k => spec_CountRowOk.f k c l) (cntB c l) := by
  unfold spec_CountRowOk.f
  rw [← cntS_eq]
  exact specCountRowOk_loop c l hl l.length 0 (by omega) (by simp)

theorem specPower_loop (b : Int) (n : Nat) (h0 : 0 ≤ b) (h1 : b ≤ 140) (hn : n ≤ 6) (d : Nat) : ∀ i : Nat, i + d = n → Ev (fun k => spec_l3Power.l0 k b (n : Int) (b ^ i) (i : Int)) (b ^ n) := by
  induction d with
  | zero =>
    intro i hi
    refine Ev.step (fun _ => rfl) ?_
    refine ev_neg (by omega) (ev_eq (Ev.now _) ?_)
    rw [show i = n by omega]
  | succ d ih =>
    intro i hi
    refine Ev.step (fun _ => rfl) ?_
    refine ev_pos (by omega) ?_
    rw [w64n i (by omega), pow_step b h0 h1 i (by omega)]
    exact ih (i + 1) (by omega)
theorem specPower_ev (b n : Int) (h0 : 0 ≤ b) (h1 : b ≤ 140) (hn0 : 0 ≤ n) (hn : n ≤ 6) : Ev (fun k => spec_l3Power.f k b n) (b ^ n.toNat) := by
  obtain ⟨m, rfl⟩ := Int.eq_ofNat_of_zero_le hn0
  unfold spec_l3Power.f
  have := specPower_loop b m h0 h1 (by omega) m 0 (by omega)
  simpa using this

theorem l2Product_loop (n : Nat) (hn : n ≤ 6) (d : Nat) : ∀ i : Nat, 1 ≤ i → i + d = n → Ev (fun k => spec_l2Product.l0 k (n : Int) (facP i) ((i : Int) + 1)) (facP n) := by
  induction d with
  | zero =>
    intro i h1 hi
    refine Ev.step (fun _ => rfl) ?_
    obtain rfl : i = n := by omega
    exact ev_neg (by omega) (Ev.now _)
  | succ d ih =>
    intro i h1 hi
    refine Ev.step (fun _ => rfl) ?_
    refine ev_pos (by omega) ?_
    have hb := fac_bound (i + 1) (by omega)
    have e : facP (i + 1) = facP i * ((i : Int) + 1) := rfl
    rw [w64 (x := facP i * ((i : Int) + 1)) (by omega) (by omega), ← e, w64 (x := (i : Int) + 1 + 1) (by omega) (by omega)]
    exact ih (i + 1) (by omega) (by omega)
theorem l2Product_ev (n : Int) (h0 : 0 ≤ n) (h6 : n ≤ 6) : Ev (fun k => spec_l2Product.f k n) (facP n.toNat) := by
  obtain ⟨m, rfl⟩ := Int.eq_ofNat_of_zero_le h0
  rw [Int.toNat_natCast]
  unfold spec_l2Product.f
  cases m with
  | zero =>
    refine Ev.step (fun _ => rfl) ?_
    exact ev_neg (by omega) (Ev.now _)
  | succ m => exact l2Product_loop (m + 1) (by omega) m 1 (by omega) (by omega)

theorem specWordsWith_loop (l : List Int) (hl : l.length ≤ 3) (hb : ∀ x ∈ l, 0 ≤ x ∧ x ≤ 6) (d : Nat) : ∀ (i : Nat) (v : Int), i + d = l.length → 0 ≤ v → v ≤ 720 → Ev (fun k => spec_WordsWith.l0 k l v (i : Int)) (divs v (l.drop i)) := by
  induction d with
  | zero =>
    intro i v hi h0 h1
    refine Ev.step (fun _ => rfl) ?_
    refine ev_neg (by omega) (ev_eq (Ev.now _) ?_)
    rw [List.drop_eq_nil_of_le (by omega)]
    rfl
  | succ d ih =>
    intro i v hi h0 h1
    refine Ev.step (fun _ => rfl) ?_
    have hx := hb _ (rd_mem l i (by omega))
    have hf := fac_bound (rd l (i : Int)).toNat (by omega)
    have ht := tdiv_range v (facP (rd l (i : Int)).toNat) h0 (by omega)
    refine ev_pos (by omega) (ev_pos (by omega) (Ev.bind (l2Product_ev _ hx.1 hx.2) (ev_neg (by omega) ?_)))
    rw [drop_rd l i (by omega), w64n i (by omega), w64 (by omega) (by omega)]
    exact ih (i + 1) _ (by omega) (by omega) (by omega)
theorem specWordsWith_ev (c : Int) (l : List Int) (hl : l.length ≤ 1000000000) : Ev (fun k => spec_WordsWith.f k c l) (wordsWithP c l) := by
  unfold spec_WordsWith.f wordsWithP
  refine Ev.bind (specCountRowOk_ev c l hl) ?_
  by_cases h : cntB c l = true
  case neg => exact ev_neg h (ev_eq (Ev.now _) (by rw [if_neg h]))
  obtain ⟨h1, h2, h3, _, h5, h6⟩ := cntB_known h
  have hf := fac_bound (tot l).toNat (by omega)
  rw [if_pos h]
  refine ev_pos h (Ev.bind (l1Total_ev l (by omega) (fun x hx => by have := h1 x hx; omega)) (Ev.bind (l2Product_ev _ h5 h6) ?_))
  exact specWordsWith_loop l h3 h1 l.length 0 _ (by omega) (by omega) (by omega)

theorem specBackCounts_loop (u l : List Int) (hl : l.length = u.length) (h3 : u.length ≤ 3) (hu : ∀ x ∈ u, 0 ≤ x ∧ x ≤ 40) (hb : ∀ x ∈ l, 0 ≤ x ∧ x ≤ 6) (d : Nat) : ∀ (i : Nat) (v : Int), i + d = l.length → tot (l.drop i) ≤ 6 → 0 ≤ v → v * 40 ^ (tot (l.drop i)).toNat ≤ 2985984000000 → Ev (fun k => spec_BackCounts.l0 k u l v (i : Int)) (v * powL (u.drop i) (l.drop i)) := by
  induction d with
  | zero =>
    intro i v hi _ h0 h1
    refine Ev.step (fun _ => rfl) ?_
    refine ev_neg (by omega) (ev_eq (Ev.now _) ?_)
    rw [List.drop_eq_nil_of_le (by omega), List.drop_eq_nil_of_le (by omega)]
    simp [powL]
  | succ d ih =>
    intro i v hi h6 h0 h1
    refine Ev.step (fun _ => rfl) ?_
    have hx := hb _ (rd_mem l i (by omega))
    have hy := hu _ (rd_mem u i (by omega))
    have hd : ∀ x ∈ l.drop (i + 1), 0 ≤ x := fun x hx => (hb x (List.mem_of_mem_drop hx)).1
    have ht := tot_nonneg _ hd
    rw [drop_rd l i (by omega)] at h1 h6
    simp only [tot] at h1 h6
    rw [show (rd l (i : Int) + tot (l.drop (i + 1))).toNat = (rd l (i : Int)).toNat + (tot (l.drop (i + 1))).toNat by omega, Int.pow_add, ← Int.mul_assoc] at h1
    have hp := pow_bound (rd u (i : Int)) 40 hy.1 hy.2 (rd l (i : Int)).toNat
    have hv : v * rd u (i : Int) ^ (rd l (i : Int)).toNat ≤ v * 40 ^ (rd l (i : Int)).toNat := Int.mul_le_mul_of_nonneg_left hp.2 h0
    have hv0 : 0 ≤ v * rd u (i : Int) ^ (rd l (i : Int)).toNat := Int.mul_nonneg h0 hp.1
    have h40 : (1 : Int) ≤ 40 ^ (tot (l.drop (i + 1))).toNat := by
      have h := (pow_bound 1 40 (by omega) (by omega) (tot (l.drop (i + 1))).toNat).2
      rw [Int.one_pow] at h
      exact h
    have hw : v * rd u (i : Int) ^ (rd l (i : Int)).toNat * 40 ^ (tot (l.drop (i + 1))).toNat ≤ 2985984000000 := Int.le_trans (Int.mul_le_mul_of_nonneg_right hv (by omega)) h1
    have hs : v * rd u (i : Int) ^ (rd l (i : Int)).toNat ≤ 2985984000000 := by
      have := Int.mul_le_mul_of_nonneg_left h40 hv0
      rw [Int.mul_one] at this
      exact Int.le_trans this hw
    refine ev_pos (by omega) (ev_pos (by omega) (ev_pos (by omega) (Ev.bind (specPower_ev _ _ hy.1 (by omega) hx.1 hx.2) ?_)))
    rw [drop_rd l i (by omega), drop_rd u i (by omega), w64n i (by omega), w64 (by omega) (by omega)]
    simp only [powL]
    rw [← Int.mul_assoc]
    exact ih (i + 1) _ (by omega) (by omega) hv0 hw
theorem specBackCounts_ev (u l : List Int) (hu : u.length ≤ 1000000000) (hl : l.length ≤ 1000000000) : Ev (fun k => spec_BackCounts.f k u l) (backCountsP u l) := by
  unfold spec_BackCounts.f backCountsP
  refine Ev.bind (specUrnOk_ev u hu) ?_
  by_cases h1 : urnB u = true
  case neg =>
    refine ev_neg h1 (Ev.step (fun _ => by rw [spec_BackCounts.j0]) ?_)
    exact ev_pos rfl (ev_eq (Ev.now _) (by rw [if_neg (fun h => h1 h.1)]))
  refine ev_pos h1 (Ev.bind (specCountRowOk_ev _ l hl) (Ev.step (fun _ => by rw [spec_BackCounts.j0]) ?_))
  by_cases h2 : cntB u.length l = true
  case neg => exact ev_pos (by simpa using h2) (ev_eq (Ev.now _) (by rw [if_neg (fun h => h2 h.2)]))
  refine ev_neg (by simp [h2]) ?_
  obtain ⟨c1, c2, c3, c4, c5, c6⟩ := cntB_known h2
  have hw := specWordsWith_ev (u.length : Int) l hl
  unfold wordsWithP at hw
  rw [if_pos h2] at hw
  rw [if_pos ⟨h1, h2⟩]
  refine Ev.bind hw ?_
  have hm := (mult_wrap h2).2
  have h40 := pow40 (tot l).toNat (by omega)
  have h0 : (0 : Int) ≤ 40 ^ (tot l).toNat := Int.pow_nonneg (by omega)
  have hb := mulb hm.1 hm.2 h0 h40
  exact specBackCounts_loop u l (by omega) (by omega) (urnB_bounds h1).1 c1 l.length 0 _ (by omega) c6 hm.1 (by simp only [List.drop_zero]; omega)

theorem implBackCounts_ev (u l : List Int) (hu : u.length ≤ 1000000000) (hl : l.length ≤ 1000000000) : Ev (fun k => impl_BackCounts.f k u l) (backCountsP u l) := by
  unfold impl_BackCounts.f
  exact ev_pos ⟨hu, hl⟩ (Ev.now _)

theorem FnExactBackCounts : laws_FnExactBackCounts.Pure := by
  intro u l hu0 _ _ hl0 _ _
  refine Ev.rounds (g := fun k => laws_FnExactBackCounts.f k u l) ?_
  unfold laws_FnExactBackCounts.f
  by_cases h1 : (u.length : Int) > 1048576
  · exact ev_pos h1 (Ev.now _)
  refine ev_neg h1 ?_
  by_cases h2 : (l.length : Int) > 1048576
  · exact ev_pos h2 (Ev.now _)
  refine ev_neg h2 ?_
  have hu : u.length ≤ 1000000000 := by omega
  have hl : l.length ≤ 1000000000 := by omega
  have tu := toIntS_ev u hu
  have tl := toIntS_ev l hl
  exact Ev.bind tu (Ev.bind tl (Ev.bind (specBackCounts_ev u l hu hl) (Ev.bind tu (Ev.bind tl (Ev.bind (implBackCounts_ev u l hu hl) (ev_pos rfl (Ev.bind tu (Ev.bind (eqIntS_ev u hu) (ev_pos rfl (Ev.bind tl (Ev.bind (eqIntS_ev l hl) (ev_pos rfl (Ev.now _)))))))))))))

end Go.Proofs.Ytdplpbhbacbcmaa.Pure
