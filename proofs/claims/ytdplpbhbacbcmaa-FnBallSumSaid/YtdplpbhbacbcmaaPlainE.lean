/- Plain mathematics of the laws over sums of ways and over words with given counts: no program in sight. No condition. -/
import Derived.Test.YtdplpbhbacbcmaaPlainD
set_option linter.unusedVariables false
set_option linter.unusedSimpArgs false
namespace Go.Proofs.Ytdplpbhbacbcmaa.Plain
open Go.RowKit Go.Proofs.YtdplpbhbacbcmaaW.PrintWords Go.Proofs.YtdplpbhbacbcmaaW.PrintLast Go.Proofs.YtdplpbhbacbcmaaW.PrintMore
/-- One fewer of a colour. -/
def lessL (l : List Int) (j : Nat) : List Int := l.set j (rd l (j : Int) - 1)
def lessF (l : List Int) (j : Nat) : Int := if 0 < rd l (j : Int) then multP (lessL l j) else 0
def recB (l : List Int) : Bool := if l.all (fun x => decide (x = 0)) then decide (multP l = 1) else decide (sumN (lessF l) l.length = multP l)
def revB (l : List Int) : Bool := decide (multP l.reverse = multP l)
set_option maxRecDepth 100000 in
theorem rec1 : ∀ a : Nat, a < 7 → (recB [(a : Int)] && revB [(a : Int)]) = true := by decide +kernel
set_option maxRecDepth 100000 in
theorem rec2 : ∀ a : Nat, a < 7 → ∀ b : Nat, b < 7 → a + b ≤ 6 → (recB [(a : Int), (b : Int)] && revB [(a : Int), (b : Int)]) = true := by decide +kernel
set_option maxRecDepth 100000 in
theorem rec3 : ∀ a : Nat, a < 7 → ∀ b : Nat, b < 7 → ∀ c : Nat, c < 7 → a + b + c ≤ 6 → (recB [(a : Int), (b : Int), (c : Int)] && revB [(a : Int), (b : Int), (c : Int)]) = true := by decide +kernel
theorem mult_rec {c : Int} {l : List Int} (h : cntB c l = true) : recB l = true ∧ revB l = true := by
  obtain ⟨h1, h2, h3, _, h5, h6⟩ := cntB_known h
  rcases len13 h2 h3 with ⟨a, rfl⟩ | ⟨a, b, rfl⟩ | ⟨a, b, d, rfl⟩
  · have ha := h1 a (by simp)
    obtain ⟨a, rfl⟩ := Int.eq_ofNat_of_zero_le ha.1
    exact Bool.and_eq_true_iff.1 (rec1 a (by omega))
  · have ha := h1 a (by simp); have hb := h1 b (by simp)
    obtain ⟨a, rfl⟩ := Int.eq_ofNat_of_zero_le ha.1
    obtain ⟨b, rfl⟩ := Int.eq_ofNat_of_zero_le hb.1
    simp only [tot] at h6
    exact Bool.and_eq_true_iff.1 (rec2 a (by omega) b (by omega) (by omega))
  · have ha := h1 a (by simp); have hb := h1 b (by simp); have hd := h1 d (by simp)
    obtain ⟨a, rfl⟩ := Int.eq_ofNat_of_zero_le ha.1
    obtain ⟨b, rfl⟩ := Int.eq_ofNat_of_zero_le hb.1
    obtain ⟨d, rfl⟩ := Int.eq_ofNat_of_zero_le hd.1
    simp only [tot] at h6
    exact Bool.and_eq_true_iff.1 (rec3 a (by omega) b (by omega) d (by omega) (by omega))
theorem cnt_intro {c : Int} {l : List Int} (h1 : ∀ x ∈ l, 0 ≤ x) (h2 : tot l ≤ 6) (h3 : (l.length : Int) = c) (h4 : 1 ≤ c) (h5 : c ≤ 3) : cntB c l = true := by
  simp only [cntB, Bool.and_eq_true, decide_eq_true_eq, colB]
  exact ⟨(cntL_tot _ 6).2 ⟨h1, .inr h2⟩, ⟨h4, h5⟩, h3⟩
theorem cnt_rev {c : Int} {l : List Int} (h : cntB c l = true) : cntB c l.reverse = true ∧ multP l.reverse = multP l := by
  obtain ⟨h1, h2, h3, h4, h5, h6⟩ := cntB_known h
  refine ⟨cnt_intro (fun x hx => (h1 x (List.mem_reverse.1 hx)).1) (by rw [tot_reverse]; exact h6) (by rw [List.length_reverse]; exact h4) (by omega) (by omega), ?_⟩
  have := (mult_rec h).2
  simpa [revB] using this
theorem less_length (l : List Int) (j : Nat) : (lessL l j).length = l.length := by simp [lessL]
theorem cnt_less {c : Int} {l : List Int} (h : cntB c l = true) (j : Nat) (hj : j < l.length) (h0 : 0 < rd l (j : Int)) : cntB c (lessL l j) = true := by
  obtain ⟨h1, h2, h3, h4, h5, h6⟩ := cntB_known h
  refine cnt_intro (fun x hx => ?_) ?_ (by rw [less_length]; exact h4) (by omega) (by omega)
  · rcases List.mem_or_eq_of_mem_set hx with hx | rfl
    · exact (h1 x hx).1
    · omega
  · unfold lessL
    rw [tot_set l j hj, rd_nat l j hj]
    rw [rd_nat l j hj] at h0
    omega
theorem less_bound {c : Int} {l : List Int} (h : cntB c l = true) (j : Nat) (hj : j < l.length) : 0 ≤ lessF l j ∧ lessF l j ≤ 729 := by
  unfold lessF
  by_cases h0 : 0 < rd l (j : Int)
  · rw [if_pos h0]; exact (mult_wrap (cnt_less h j hj h0)).2
  · rw [if_neg h0]; omega
/-- Whether anything is counted, the sum over the colours that are. -/
theorem mult_any {c : Int} {l : List Int} (h : cntB c l = true) : (∃ j : Nat, j < l.length ∧ 0 < rd l (j : Int)) → sumN (lessF l) l.length = multP l := by
  rintro ⟨j, hj, h0⟩
  have := (mult_rec h).1
  unfold recB at this
  rw [if_neg (fun ha => by have := List.all_eq_true.1 ha _ (rd_mem l j hj); simp at this; omega)] at this
  simpa using this
theorem mult_none {c : Int} {l : List Int} (h : cntB c l = true) : (∀ j : Nat, j < l.length → ¬ 0 < rd l (j : Int)) → multP l = 1 := by
  intro hn
  obtain ⟨h1, _⟩ := cntB_known h
  have := (mult_rec h).1
  unfold recB at this
  rw [if_pos (List.all_eq_true.2 (all_of_rd fun j hj => by have := hn j hj; have := h1 _ (rd_mem l j hj); simp; omega))] at this
  simpa using this
/-! ### the last draw -/
theorem wsum_last (c : Nat) : ∀ (m : Nat) (F : List Int → Int), wsum c (m + 1) F = sumN (fun k => wsum c m (fun w => F (w ++ [(k : Int)]))) c := by
  intro m
  induction m with
  | zero => intro F; rfl
  | succ m ih =>
    intro F
    have e : wsum c (m + 1 + 1) F = sumN (fun r => wsum c (m + 1) (fun w => F ((r : Int) :: w))) c := rfl
    rw [e, sumN_congr c (fun r _ => ih (fun w => F ((r : Int) :: w))), sumN_swap]
    rfl
theorem ways_ball {c : Nat} {r : List (List Int)} (hr : RuleK c r) (u : List Int) (hl : u.length = c) (hu : ∀ i : Nat, i < c → 0 ≤ rd u i) (w : List Int) (hw : ∀ q ∈ w, 0 ≤ q ∧ q < (c : Int)) (k : Nat) (hk : k < c) : waysL r u (w ++ [(k : Int)]) = ballF r (k : Int) u w := by
  rw [waysL_snoc]
  unfold ballF
  by_cases hz : waysL r u w = 0
  · rw [hz]; omega
  · have := pos_after hr w u hl hu hw hz k hk
    rw [show mx 0 (rd (afterL r u w) (k : Int)) = rd (afterL r u w) (k : Int) from by unfold mx; split <;> omega]
theorem next_sum {c : Nat} {r : List (List Int)} (hr : RuleK c r) (u : List Int) (hl : u.length = c) (hu : ∀ i : Nat, i < c → 0 ≤ rd u i) (m : Nat) : wsum c (m + 1) (waysL r u) = sumN (fun k => wsum c m (ballF r (k : Int) u)) c := by
  rw [wsum_last]
  refine sumN_congr c fun k hk => wsum_congr c m fun w _ hw => ways_ball hr u hl hu w hw k hk
theorem after_len {c : Nat} {r : List (List Int)} (hr : RuleK c r) : ∀ (w u : List Int), u.length = c → (∀ q ∈ w, 0 ≤ q ∧ q < (c : Int)) → (afterL r u w).length = c := by
  intro w
  induction w with
  | nil => intro u hl _; exact hl
  | cons q w ih =>
    intro u hl hw
    have hq := hw q List.mem_cons_self
    obtain ⟨n, rfl⟩ := Int.eq_ofNat_of_zero_le hq.1
    exact ih (addL u (rowR r (n : Int))) (by rw [addL_length _ _ (by rw [hr.rows n (by omega), hl]), hl]) (fun x hx => hw x (List.mem_cons_of_mem _ hx))
/-- Over all colours: ways times all balls. -/
theorem ball_all {c : Nat} {r : List (List Int)} (hr : RuleK c r) (u : List Int) (hl : u.length = c) (hu : ∀ i : Nat, i < c → 0 ≤ rd u i) (g : Int) (he : ∀ x ∈ r, tot x = g) (m : Nat) : sumN (fun k => wsum c m (ballF r (k : Int) u)) c = (tot u + m * g) * wsum c m (waysL r u) := by
  rw [← wsum_sum, ← wsum_mul]
  refine wsum_congr c m fun w hm hw => ?_
  have h1 := tot_after hr g he w u hl hw
  have h2 := after_len hr w u hl hw
  have e : sumN (fun i => ballF r (i : Int) u w) c = waysL r u w * tot (afterL r u w) := by
    rw [tot_sumN, h2, ← sumN_mul]
    rfl
  rw [e, h1, hm, Int.mul_comm, Int.mul_comm g]
theorem even_rising {c : Nat} {r : List (List Int)} (hr : RuleK c r) (u : List Int) (hl : u.length = c) (hu : ∀ i : Nat, i < c → 0 ≤ rd u i) (g : Int) (he : ∀ x ∈ r, tot x = g) : ∀ m : Nat, wsum c m (waysL r u) = rising (tot u) g m := by
  intro m
  induction m with
  | zero => rfl
  | succ m ih =>
    rw [next_sum hr u hl hu, ball_all hr u hl hu g he m]
    simp only [rising]
    rw [← ih, Int.mul_comm]
    by_cases hn : 0 ≤ tot u + m * g
    · rw [mx_l _ _ hn]
    · rw [mx_r _ _ (by omega), Int.mul_zero]
      have hz : wsum c m (waysL r u) = wsum c m (fun _ => 0) := by
        refine wsum_congr c m fun w hm hw => ?_
        by_cases hz : waysL r u w = 0
        · exact hz
        · have h1 := tot_after hr g he w u hl hw
          have h2 := pos_after hr w u hl hu hw hz
          have h3 : 0 ≤ tot (afterL r u w) := tot_nonneg _ (all_of_rd fun i hi => by
            exact h2 i (by rw [after_len hr w u hl hw] at hi; exact hi))
          rw [hm, Int.mul_comm g] at h1
          omega
      have h0 : wsum c m (fun _ => (0 : Int)) = 0 := by
        have := wsum_mul c 0 m (fun _ => 0)
        simpa using this
      rw [hz, h0]; omega
theorem rising_bound9 (s st : Int) (hs : 0 ≤ s) (hs2 : s ≤ 30) (h1 : -9 ≤ st) (h2 : st ≤ 9) : ∀ n, n ≤ 6 → 0 ≤ rising s st n ∧ rising s st n ≤ 7529536000000 := by
  have key : ∀ n, n ≤ 6 → 0 ≤ rising s st n ∧ rising s st n ≤ 140 ^ n := by
    intro n
    induction n with
    | zero => intro _; simp [rising]
    | succ n ih =>
      intro hn
      obtain ⟨ha, hb⟩ := ih (by omega)
      have hc : s + n * st ≤ 140 := by
        have h5 : (n : Int) * st ≤ (n : Int) * 9 := Int.mul_le_mul_of_nonneg_left h2 (by omega)
        omega
      obtain ⟨hm1, hm2⟩ := mx_bound (s + n * st) 140 hc (by omega)
      simp only [rising]
      have := mulb ha hb hm1 hm2
      rw [Int.pow_succ]
      exact this
  intro n hn
  have := key n hn
  have := pow6 n hn
  omega
end Go.Proofs.Ytdplpbhbacbcmaa.Plain
