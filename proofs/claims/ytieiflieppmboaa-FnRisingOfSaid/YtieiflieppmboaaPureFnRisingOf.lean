/- The law FnRisingOf: for every input the printed function of the law answers true. No condition. -/
import Derived.Test.YtieiflieppmboaaPFnRisingOfx2
import Derived.Test.YtieiflieppmboaaPlain
set_option linter.unusedVariables false
set_option linter.unusedSimpArgs false
namespace Go.Proofs.Ytieiflieppmboaa.Pure
open Go.RowKit Go.Proofs.Ytieiflieppmboaa.PFnRisingOf Go.Proofs.YtieiflieppmboaaW.PrintWords Go.Proofs.YtieiflieppmboaaW.PrintLast Go.Proofs.YtieiflieppmboaaW.PrintMore Go.Proofs.Ytieiflieppmboaa.Plain

theorem l1In_f (x a b : Int) : spec_l1In.f x a b = some (inB x a b) := by
  unfold spec_l1In.f inB
  by_cases h : x ≥ a
  · rw [if_pos h]; congr 1; simp [h]
  · rw [if_neg h]; congr 1; simp; omega

theorem coloursOk_f (x : Int) : impl_coloursOk.f x = some (colB x) := by
  unfold impl_coloursOk.f colB
  by_cases h : x ≥ 1
  · rw [if_pos h]; congr 1; simp [h]
  · rw [if_neg h]; congr 1; simp; omega

theorem implUrnOk_loop (l : List Int) (hl : l.length ≤ 1000000000) (d : Nat) : ∀ i : Nat, i + d = l.length → Ev (fun k => impl_UrnOk.l0 k l l (l.length : Int) (i : Int)) ((l.drop i).all urnE && colB l.length) := by
  induction d with
  | zero =>
    intro i hi
    refine Ev.step (fun _ => rfl) ?_
    refine ev_neg (by omega) ?_
    rw [coloursOk_f, List.drop_eq_nil_of_le (by omega)]
    exact Ev.now _
  | succ d ih =>
    intro i hi
    refine Ev.step (fun _ => rfl) ?_
    refine ev_pos (by omega) (ev_pos (by omega) (ev_pos (by omega) ?_))
    rw [drop_rd l i (by omega), List.all_cons]
    by_cases h1 : rd l (i : Int) < 0
    · refine ev_pos h1 (ev_eq (Ev.now _) ?_)
      rw [show urnE (rd l (i : Int)) = false from by simp [urnE]; omega]; rfl
    · refine ev_neg h1 ?_
      by_cases h2 : rd l (i : Int) > 40
      · refine ev_pos h2 (ev_eq (Ev.now _) ?_)
        rw [show urnE (rd l (i : Int)) = false from by simp [urnE]; omega]; rfl
      · refine ev_neg h2 ?_
        rw [w64n i (by omega), show urnE (rd l (i : Int)) = true from by simp [urnE]; omega, Bool.true_and]
        exact ih (i + 1) (by omega)
theorem implUrnOk_ev (l : List Int) (hl : l.length ≤ 1000000000) : Ev (fun k => impl_UrnOk.f k l) (urnB l) := by
  unfold impl_UrnOk.f
  exact implUrnOk_loop l hl l.length 0 (by omega)

theorem l5Rising_loop (s st : Int) (n : Nat) (hs : 0 ≤ s) (hs2 : s ≤ 40) (h1 : -1 ≤ st) (h2 : st ≤ 3) (hn : n ≤ 6) (d : Nat) : ∀ i : Nat, i + d = n → Ev (fun k => spec_l5Rising.l0 k s (n : Int) st (rising s st i) (i : Int)) (rising s st n) := by
  induction d with
  | zero =>
    intro i hi
    refine Ev.step (fun _ => rfl) ?_
    refine ev_neg (by omega) (ev_eq (Ev.now _) ?_)
    rw [show i = n by omega]
  | succ d ih =>
    intro i hi
    refine Ev.step (fun _ => rfl) ?_
    refine ev_pos (by omega) ?_
    obtain ⟨e1, e2, e3⟩ := rising_step s st hs (by omega) h1 h2 i (by omega)
    rw [w64n i (by omega), e1, e2, e3]
    exact ih (i + 1) (by omega)
theorem l5Rising_ev (s st : Int) (n : Int) (hs : 0 ≤ s) (hs2 : s ≤ 40) (h1 : -1 ≤ st) (h2 : st ≤ 3) (hn0 : 0 ≤ n) (hn : n ≤ 6) : Ev (fun k => spec_l5Rising.f k s n st) (rising s st n.toNat) := by
  obtain ⟨m, rfl⟩ := Int.eq_ofNat_of_zero_le hn0
  unfold spec_l5Rising.f
  exact l5Rising_loop s st m hs hs2 h1 h2 (by omega) m 0 (by omega)

theorem specRisingOf_ev (s n st : Int) : Ev (fun k => spec_RisingOf.f k s n st) (if 0 ≤ s ∧ s ≤ 40 ∧ 0 ≤ n ∧ n ≤ 6 ∧ -1 ≤ st ∧ st ≤ 3 then rising s st n.toNat else -1) := by
  unfold spec_RisingOf.f
  simp only [l1In_f, Option.bind_some, inB, decide_eq_true_eq]
  by_cases h1 : 0 ≤ s ∧ s ≤ 40
  · refine ev_pos h1 ?_
    by_cases h2 : 0 ≤ n ∧ n ≤ 6
    · refine ev_pos h2 ?_
      by_cases h3 : -1 ≤ st ∧ st ≤ 3
      · refine ev_pos h3 ?_
        rw [if_pos (by omega)]
        exact Ev.bind (l5Rising_ev s st n h1.1 h1.2 h3.1 h3.2 h2.1 h2.2) (Ev.now _)
      · refine ev_neg h3 ?_
        rw [if_neg (by omega)]; exact Ev.now _
    · refine ev_neg h2 ?_
      rw [if_neg (by omega)]; exact Ev.now _
  · refine ev_neg h1 ?_
    rw [if_neg (by omega)]; exact Ev.now _

theorem implRisingOf_loop (s st : Int) (n : Nat) (hs : 0 ≤ s) (hs2 : s ≤ 40) (h1 : -1 ≤ st) (h2 : st ≤ 3) (hn : n ≤ 6) (d : Nat) : ∀ i : Nat, i + d = n → Ev (fun k => impl_RisingOf.l0 k s st (rising s st i) (n : Int) (i : Int)) (rising s st n) := by
  induction d with
  | zero =>
    intro i hi
    refine Ev.step (fun _ => rfl) ?_
    refine ev_neg (by omega) (ev_eq (Ev.now _) ?_)
    rw [show i = n by omega]
  | succ d ih =>
    intro i hi
    refine Ev.step (fun _ => rfl) ?_
    refine ev_pos (by omega) ?_
    obtain ⟨e1, e2, e3⟩ := rising_step s st hs (by omega) h1 h2 i (by omega)
    rw [w64n i (by omega), e1, e2, mx_comm, e3]
    exact ih (i + 1) (by omega)
theorem implRisingOf_j (s n st : Int) (b : Bool) (h : b = false → 0 ≤ s ∧ s ≤ 40 ∧ 0 ≤ n ∧ n ≤ 6 ∧ -1 ≤ st ∧ st ≤ 3) : Ev (fun k => impl_RisingOf.j0 k s n st b) (if b = true then -1 else rising s st n.toNat) := by
  refine Ev.step (fun _ => rfl) ?_
  cases b with
  | true => exact Ev.now _
  | false =>
    obtain ⟨a1, a2, a3, a4, a5, a6⟩ := h rfl
    obtain ⟨m, rfl⟩ := Int.eq_ofNat_of_zero_le a3
    exact implRisingOf_loop s st m a1 a2 a5 a6 (by omega) m 0 (by omega)
theorem implRisingOf_ev (s n st : Int) : Ev (fun k => impl_RisingOf.f k s n st) (if 0 ≤ s ∧ s ≤ 40 ∧ 0 ≤ n ∧ n ≤ 6 ∧ -1 ≤ st ∧ st ≤ 3 then rising s st n.toNat else -1) := by
  have no : ¬ (0 ≤ s ∧ s ≤ 40 ∧ 0 ≤ n ∧ n ≤ 6 ∧ -1 ≤ st ∧ st ≤ 3) → Ev (fun k => impl_RisingOf.j0 k s n st true) (if 0 ≤ s ∧ s ≤ 40 ∧ 0 ≤ n ∧ n ≤ 6 ∧ -1 ≤ st ∧ st ≤ 3 then rising s st n.toNat else -1) := fun h => by
    rw [if_neg h]; exact implRisingOf_j s n st true (fun h => by cases h)
  unfold impl_RisingOf.f
  by_cases h1 : n < 0
  · exact ev_pos h1 (no (by omega))
  refine ev_neg h1 ?_
  by_cases h2 : n > 6
  · exact ev_pos h2 (no (by omega))
  refine ev_neg h2 ?_
  by_cases h3 : s < 0
  · exact ev_pos h3 (no (by omega))
  refine ev_neg h3 ?_
  by_cases h4 : s > 40
  · exact ev_pos h4 (no (by omega))
  refine ev_neg h4 ?_
  by_cases h5 : st < -1
  · exact ev_pos h5 (no (by omega))
  refine ev_neg h5 ?_
  by_cases h6 : st > 3
  · rw [decide_eq_true h6]; exact no (by omega)
  · rw [decide_eq_false h6, if_pos (by omega)]
    exact implRisingOf_j s n st false (fun _ => by omega)

theorem lawsPower_loop (b : Int) (n : Nat) (h0 : 0 ≤ b) (h1 : b ≤ 140) (hn : n ≤ 6) (d : Nat) : ∀ i : Nat, i + d = n → Ev (fun k => laws_powerOf.l0 k b (n : Int) (b ^ i) (i : Int)) (b ^ n) := by
  induction d with
  | zero =>
    intro i hi
    refine Ev.step (fun _ => rfl) ?_
    refine ev_neg (by omega) (ev_eq (Ev.now _) ?_)
    rw [show i = n by omega]
  | succ d ih =>
    intro i hi
    refine Ev.step (fun _ => rfl) ?_
    refine ev_pos (by omega) ?_
    rw [w64n i (by omega), pow_step b h0 h1 i (by omega)]
    exact ih (i + 1) (by omega)
theorem lawsPower_ev (b n : Int) (h0 : 0 ≤ b) (h1 : b ≤ 140) (hn0 : 0 ≤ n) (hn : n ≤ 6) : Ev (fun k => laws_powerOf.f k b n) (b ^ n.toNat) := by
  obtain ⟨m, rfl⟩ := Int.eq_ofNat_of_zero_le hn0
  unfold laws_powerOf.f
  have := lawsPower_loop b m h0 h1 (by omega) m 0 (by omega)
  simpa using this

theorem l20Open_f (l : List Int) (hb : ∀ x ∈ l, (Lit.int .u8 x).wf = true) : ∃ b, spec_l20Open.f l = some (b, 0) ∧ OkB b := by
  unfold spec_l20Open.f
  by_cases h : (l.length : Int) > 2000
  · rw [if_pos h, if_pos (by omega)]
    exact ⟨_, rfl, fun x hx => u8_wf (hb x (List.mem_of_mem_take hx)), by rw [List.length_take]; omega⟩
  · rw [if_neg h]
    exact ⟨_, rfl, fun x hx => u8_wf (hb x hx), by omega⟩

theorem pick_ev {b : List Int} (hb : OkB b) {p : Int} (hp0 : 0 ≤ p) (hp : p ≤ 1000000) (n : Int) (hn0 : 1 ≤ n) (hn : n ≤ 1000000) : ∃ v, Ev (fun k => spec_l20Rd_pick.f k b p n) (v, p + 1) ∧ 0 ≤ v ∧ v < n := by
  obtain ⟨hb1, hb2⟩ := hb
  unfold spec_l20Rd_pick.f
  have e1 : wrap64 (p + 1) = p + 1 := w64 (by omega) (by omega)
  by_cases h0 : b.length = 0
  · refine ⟨0, ev_neg (by omega) ?_, by omega, by omega⟩
    rw [show ((b.length : Int) == 0) = true from by simp [h0], e1]
    exact Ev.step (fun _ => rfl) (Ev.now _)
  · have hz : ((b.length : Int) == 0) = false := by simp; intro hh; exact h0 (by simp [hh])
    have hat : ∀ i : Int, 0 ≤ i → i < b.length → 0 ≤ rd b i ∧ rd b i ≤ 255 := fun i h1 h2 => hb1 _ (rd_range b i h1 h2)
    have e2 : wrap64 (p + 1 - 1) = p := by rw [show p + 1 - 1 = p by omega]; exact w64 (by omega) (by omega)
    by_cases h1 : p < (b.length : Int)
    · have hr := hat p hp0 h1
      have ht := tmod_range (rd b p) n hr.1 (by omega)
      refine ⟨Int.tmod (rd b p) n, ev_neg (by omega) ?_, ht.1, ht.2⟩
      rw [hz, e1]
      refine Ev.step (fun _ => by rw [spec_l20Rd_pick.j0]) (ev_neg (by simp) ?_)
      rw [e2, w64 (x := rd b p) (by omega) (by omega)]
      exact ev_pos h1 (ev_pos hp0 (ev_neg (by omega) (Ev.now _)))
    · have m1 := tmod_range p (b.length : Int) hp0 (by omega)
      have e3 : wrap64 (p * 7) = p * 7 := w64 (by omega) (by omega)
      have e4 : wrap64 (p * 7 + 3) = p * 7 + 3 := w64 (by omega) (by omega)
      have m2 := tmod_range (p * 7 + 3) (b.length : Int) (by omega) (by omega)
      have r1 := hat _ m1.1 m1.2
      have r2 := hat _ m2.1 m2.2
      have d1 := tdiv_range p (b.length : Int) hp0 (by omega)
      have key : ∀ x y z : Int, 0 ≤ x → x ≤ 255 → 0 ≤ y → y ≤ 255 → 0 ≤ z → z ≤ 1000000 →
          wrap64 (wrap64 (wrap64 (wrap64 (wrap64 x * 131) + wrap64 (wrap64 y * 1117)) + wrap64 (p * 29)) + wrap64 (wrap64 z * 53)) = x * 131 + y * 1117 + p * 29 + z * 53 := by
        intro x y z _ _ _ _ _ _
        rw [w64 (x := x) (by omega) (by omega), w64 (x := y) (by omega) (by omega), w64 (x := z) (by omega) (by omega), w64 (x := x * 131) (by omega) (by omega), w64 (x := y * 1117) (by omega) (by omega), w64 (x := p * 29) (by omega) (by omega), w64 (x := z * 53) (by omega) (by omega),
          w64 (x := x * 131 + y * 1117) (by omega) (by omega), w64 (x := x * 131 + y * 1117 + p * 29) (by omega) (by omega), w64 (by omega) (by omega)]
      obtain ⟨X, hX, hX0, hX1⟩ : ∃ X, wrap64 (wrap64 (wrap64 (wrap64 (wrap64 (rd b (Int.tmod p b.length)) * 131) + wrap64 (wrap64 (rd b (Int.tmod (p * 7 + 3) b.length)) * 1117)) + wrap64 (p * 29)) + wrap64 (wrap64 (Int.tdiv p b.length) * 53)) = X ∧ 0 ≤ X ∧ X ≤ 100000000 :=
        ⟨_, key _ _ _ r1.1 r1.2 r2.1 r2.2 d1.1 (by omega), by omega, by omega⟩
      have d2 := tdiv_range X 64 hX0 (by omega)
      have hx := xor_nonneg X (Int.tdiv X 64) hX0 (by omega) d2.1 (by omega)
      have ht := tmod_range _ n hx (by omega)
      refine ⟨Int.tmod (Go.bits .xor .i64 X (Int.tdiv X 64)) n, ev_neg (by omega) ?_, ht.1, ht.2⟩
      rw [hz, e1]
      refine Ev.step (fun _ => by rw [spec_l20Rd_pick.j0]) (ev_neg (by simp) ?_)
      rw [e2, e3, e4, hX, w64 (x := Int.tdiv X 64) (by omega) (by omega)]
      exact ev_neg h1 (ev_neg (by omega) (ev_pos m1.1 (ev_pos m1.2 (ev_pos m2.1 (ev_pos m2.2 (ev_neg (by omega) (Ev.now _)))))))

theorem DrawRisingOf_ev (l : List Int) (hb : ∀ x ∈ l, (Lit.int .u8 x).wf = true) : ∃ s n t, Ev (fun k => spec_DrawRisingOf.f k l) (s, n, t) := by
  obtain ⟨b, hf, hk⟩ := l20Open_f l hb
  obtain ⟨v1, e1, _⟩ := pick_ev hk (p := 0) (by omega) (by omega) 9 (by omega) (by omega)
  obtain ⟨v2, e2, _⟩ := pick_ev hk (p := 0 + 1) (by omega) (by omega) 30 (by omega) (by omega)
  obtain ⟨v3, e3, _⟩ := pick_ev hk (p := 0 + 1 + 1) (by omega) (by omega) 7 (by omega) (by omega)
  obtain ⟨v4, e4, _⟩ := pick_ev hk (p := 0 + 1 + 1 + 1) (by omega) (by omega) 40 (by omega) (by omega)
  obtain ⟨v5, e5, _⟩ := pick_ev hk (p := 0 + 1 + 1 + 1 + 1) (by omega) (by omega) 40 (by omega) (by omega)
  obtain ⟨v6, e6, _⟩ := pick_ev hk (p := 0 + 1 + 1 + 1 + 1 + 1) (by omega) (by omega) 5 (by omega) (by omega)
  obtain ⟨v7, e7, _⟩ := pick_ev hk (p := 0 + 1 + 1 + 1 + 1 + 1 + 1) (by omega) (by omega) 30 (by omega) (by omega)
  exact ⟨_, _, _, by
    unfold spec_DrawRisingOf.f
    rw [hf]
    exact Ev.bind (Ev.now _) (Ev.bind e1 (Ev.bind e2 (Ev.bind e3 (Ev.bind e4 (Ev.bind e5 (Ev.bind e6 (Ev.bind e7 (Ev.now _)))))))) ⟩

theorem alive_ev : Ev (fun k => laws_alive.f k) true := by
  unfold laws_alive.f
  exact Ev.bind (implUrnOk_ev [1] (by simp)) (ev_pos (by decide) (Ev.bind (implUrnOk_ev [] (by simp)) (Ev.now _)))

theorem rising_split (s st : Int) (h : Nat) : ∀ r : Nat, rising s st (h + r) = rising s st h * rising (s + h * st) st r := by
  intro r
  induction r with
  | zero => simp [rising]
  | succ r ih =>
    rw [← Nat.add_assoc]
    simp only [rising]
    rw [ih, Int.mul_assoc]
    congr 3
    rw [Int.natCast_add, Int.add_mul]; omega
theorem rising_zero (s : Int) (hs : 0 ≤ s) : ∀ n : Nat, rising s 0 n = s ^ n := by
  intro n
  induction n with
  | zero => simp [rising]
  | succ n ih => simp only [rising]; rw [ih, Int.mul_zero, Int.add_zero, mx_l _ _ hs, Int.pow_succ]
theorem FnRisingOf : laws_FnRisingOf.Pure := by
  intro l hl0 _ hb
  refine Ev.rounds (g := fun k => laws_FnRisingOf.f k l) ?_
  unfold laws_FnRisingOf.f
  by_cases h : (l.length : Int) > 1048576
  · exact ev_pos h (Ev.now _)
  refine ev_neg h ?_
  obtain ⟨s, n, t, hu⟩ := DrawRisingOf_ev l hb
  refine Ev.bind hu (Ev.bind (implRisingOf_ev s n t) (Ev.bind (specRisingOf_ev s n t) (ev_pos rfl ?_)))
  by_cases hc : 0 ≤ s ∧ s ≤ 40 ∧ 0 ≤ n ∧ n ≤ 6 ∧ -1 ≤ t ∧ t ≤ 3
  · simp only [if_pos hc]
    have hn := rising_bound s t hc.1 (by omega) hc.2.2.2.2.1 hc.2.2.2.2.2 n.toNat (by omega)
    refine ev_neg (by omega) ?_
    obtain ⟨m, rfl⟩ := Int.eq_ofNat_of_zero_le hc.2.2.1
    have hd : Int.tdiv (m : Int) 2 = ((m / 2 : Nat) : Int) := by rw [Int.tdiv_eq_ediv_of_nonneg (by omega)]; simp
    have hm : m / 2 ≤ 3 := by omega
    have h3 : ((m / 2 : Nat) : Int) * t ≤ ((m / 2 : Nat) : Int) * 3 := Int.mul_le_mul_of_nonneg_left hc.2.2.2.2.2 (by omega)
    have h4 : ((m / 2 : Nat) : Int) * (-1) ≤ ((m / 2 : Nat) : Int) * t := Int.mul_le_mul_of_nonneg_left hc.2.2.2.2.1 (by omega)
    rw [hd, w64 (x := ((m / 2 : Nat) : Int)) (by omega) (by omega), w64 (x := ((m / 2 : Nat) : Int) * t) (by omega) (by omega), w64 (x := s + ((m / 2 : Nat) : Int) * t) (by omega) (by omega), w64 (x := (m : Int) - ((m / 2 : Nat) : Int)) (by omega) (by omega)]
    have e1 := implRisingOf_ev s (m : Int) 0
    rw [if_pos (by omega)] at e1
    have e2 := lawsPower_ev s (m : Int) hc.1 (by omega) (by omega) (by omega)
    have e3 : rising s 0 (m : Int).toNat = s ^ (m : Int).toNat := rising_zero s hc.1 _
    refine Ev.bind (implRisingOf_ev _ _ _) ?_
    by_cases hr : 0 ≤ s + ((m / 2 : Nat) : Int) * t ∧ s + ((m / 2 : Nat) : Int) * t ≤ 40
    · rw [if_pos (by omega)]
      have hb2 := rising_bound (s + ((m / 2 : Nat) : Int) * t) t hr.1 (by omega) hc.2.2.2.2.1 hc.2.2.2.2.2 ((m : Int) - ((m / 2 : Nat) : Int)).toNat (by omega)
      refine ev_neg (by omega) ?_
      have e4 := implRisingOf_ev s ((m / 2 : Nat) : Int) t
      rw [if_pos (by omega)] at e4
      refine Ev.bind e4 ?_
      have e5 : rising s t ((m / 2 : Nat) : Int).toNat * rising (s + ((m / 2 : Nat) : Int) * t) t ((m : Int) - ((m / 2 : Nat) : Int)).toNat = rising s t (m : Int).toNat := by
        have := rising_split s t (m / 2) (m - m / 2)
        rw [show m / 2 + (m - m / 2) = m by omega] at this
        rw [show ((m : Int) - ((m / 2 : Nat) : Int)).toNat = m - m / 2 by omega, Int.toNat_natCast, Int.toNat_natCast, this]
      rw [e5]
      have hp := pow6 (m : Int).toNat (by omega)
      rw [w64 (by omega) (by omega)]
      exact ev_pos rfl (Ev.bind e1 (Ev.bind e2 (ev_eq (Ev.now _) (by rw [e3]; simp))))
    · rw [if_neg (by omega)]
      exact ev_pos (by omega) (Ev.bind e1 (Ev.bind e2 (ev_eq (Ev.now _) (by rw [e3]; simp))))
  · simp only [if_neg hc]
    exact ev_pos (by omega) (ev_pos trivial (Ev.bind alive_ev (Ev.now _)))

end Go.Proofs.Ytieiflieppmboaa.Pure
