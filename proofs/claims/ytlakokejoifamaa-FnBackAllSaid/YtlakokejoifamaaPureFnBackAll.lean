/- The law FnBackAll: for every input the printed function of the law answers true. No condition. -/
import Derived.Test.YtlakokejoifamaaPFnBackAllx4
import Derived.Test.YtlakokejoifamaaPlain
set_option linter.unusedVariables false
set_option linter.unusedSimpArgs false
namespace Go.Proofs.Ytlakokejoifamaa.Pure
open Go.RowKit Go.Proofs.Ytlakokejoifamaa.PFnBackAll Go.Proofs.YtlakokejoifamaaW.PrintWords Go.Proofs.YtlakokejoifamaaW.PrintLast Go.Proofs.YtlakokejoifamaaW.PrintMore Go.Proofs.Ytlakokejoifamaa.Plain

theorem l1In_f (x a b : Int) : spec_l1In.f x a b = some (inB x a b) := by
  unfold spec_l1In.f inB
  by_cases h : x ≥ a
  · rw [if_pos h]; congr 1; simp [h]
  · rw [if_neg h]; congr 1; simp; omega

theorem coloursOk_f (x : Int) : impl_coloursOk.f x = some (colB x) := by
  unfold impl_coloursOk.f colB
  by_cases h : x ≥ 1
  · rw [if_pos h]; congr 1; simp [h]
  · rw [if_neg h]; congr 1; simp; omega

theorem implUrnOk_loop (l : List Int) (hl : l.length ≤ 1000000000) (d : Nat) : ∀ i : Nat, i + d = l.length → Ev (fun k => impl_UrnOk.l0 k l l (l.length : Int) (i : Int)) ((l.drop i).all urnE && colB l.length) := by
  induction d with
  | zero =>
    intro i hi
    refine Ev.step (fun _ => rfl) ?_
    refine ev_neg (by omega) ?_
    rw [coloursOk_f, List.drop_eq_nil_of_le (by omega)]
    exact Ev.now _
  | succ d ih =>
    intro i hi
    refine Ev.step (fun _ => rfl) ?_
    refine ev_pos (by omega) (ev_pos (by omega) (ev_pos (by omega) ?_))
    rw [drop_rd l i (by omega), List.all_cons]
    by_cases h1 : rd l (i : Int) < 0
    · refine ev_pos h1 (ev_eq (Ev.now _) ?_)
      rw [show urnE (rd l (i : Int)) = false from by simp [urnE]; omega]; rfl
    · refine ev_neg h1 ?_
      by_cases h2 : rd l (i : Int) > 40
      · refine ev_pos h2 (ev_eq (Ev.now _) ?_)
        rw [show urnE (rd l (i : Int)) = false from by simp [urnE]; omega]; rfl
      · refine ev_neg h2 ?_
        rw [w64n i (by omega), show urnE (rd l (i : Int)) = true from by simp [urnE]; omega, Bool.true_and]
        exact ih (i + 1) (by omega)
theorem implUrnOk_ev (l : List Int) (hl : l.length ≤ 1000000000) : Ev (fun k => impl_UrnOk.f k l) (urnB l) := by
  unfold impl_UrnOk.f
  exact implUrnOk_loop l hl l.length 0 (by omega)

theorem specUrnOk_loop (l : List Int) (hl : l.length ≤ 1000000000) (d : Nat) : ∀ i : Nat, i + d = l.length → Ev (fun k => spec_UrnOk.l0 k l (i : Int)) ((l.drop i).all urnE && colB l.length) := by
  induction d with
  | zero =>
    intro i hi
    refine Ev.step (fun _ => rfl) ?_
    refine ev_neg (by omega) ?_
    rw [l1In_f, List.drop_eq_nil_of_le (by omega)]
    exact Ev.now _
  | succ d ih =>
    intro i hi
    refine Ev.step (fun _ => rfl) ?_
    refine ev_pos (by omega) (ev_pos (by omega) ?_)
    rw [drop_rd l i (by omega), List.all_cons, l1In_f, show inB (rd l (i : Int)) 0 40 = urnE (rd l (i : Int)) from rfl]
    cases h : urnE (rd l (i : Int)) with
    | false => exact Ev.now _
    | true =>
      simp only [Option.bind_some, if_true, Bool.true_and]
      rw [w64n i (by omega)]
      exact ih (i + 1) (by omega)
theorem specUrnOk_ev (l : List Int) (hl : l.length ≤ 1000000000) : Ev (fun k => spec_UrnOk.f k l) (urnB l) := by
  unfold spec_UrnOk.f
  exact specUrnOk_loop l hl l.length 0 (by omega)

theorem implWordOk_loop (c : Int) (l : List Int) (hl : l.length ≤ 1000000000) (d : Nat) : ∀ i : Nat, i + d = l.length → Ev (fun k => impl_WordOk.l0 k c l l (l.length : Int) (i : Int)) ((l.drop i).all (fun x => decide (0 ≤ x ∧ x < c)) && (colB c && decide ((l.length : Int) ≤ 6))) := by
  induction d with
  | zero =>
    intro i hi
    refine Ev.step (fun _ => rfl) ?_
    refine ev_neg (by omega) ?_
    rw [coloursOk_f, List.drop_eq_nil_of_le (by omega)]
    cases h : colB c <;> exact Ev.now _
  | succ d ih =>
    intro i hi
    refine Ev.step (fun _ => rfl) ?_
    refine ev_pos (by omega) (ev_pos (by omega) (ev_pos (by omega) ?_))
    rw [drop_rd l i (by omega), List.all_cons]
    by_cases h1 : rd l (i : Int) < 0
    · refine ev_pos h1 (ev_eq (Ev.now _) ?_)
      rw [show decide (0 ≤ rd l (i : Int) ∧ rd l (i : Int) < c) = false from by simp; omega]; rfl
    · refine ev_neg h1 ?_
      by_cases h2 : rd l (i : Int) ≥ c
      · refine ev_pos h2 (ev_eq (Ev.now _) ?_)
        rw [show decide (0 ≤ rd l (i : Int) ∧ rd l (i : Int) < c) = false from by simp; omega]; rfl
      · refine ev_neg h2 ?_
        rw [w64n i (by omega), show decide (0 ≤ rd l (i : Int) ∧ rd l (i : Int) < c) = true from by simp; omega, Bool.true_and]
        exact ih (i + 1) (by omega)
theorem implWordOk_ev (c : Int) (l : List Int) (hl : l.length ≤ 1000000000) : Ev (fun k => impl_WordOk.f k c l) (wordB c l) := by
  unfold impl_WordOk.f
  exact implWordOk_loop c l hl l.length 0 (by omega)

theorem l1Total_loop (l : List Int) (hl : l.length ≤ 1000) (B : Int) (hB : 0 ≤ B) (hB2 : B ≤ 1000000000) (hb : ∀ x ∈ l, -B ≤ x ∧ x ≤ B) (d : Nat) : ∀ i : Nat, i + d = l.length → Ev (fun k => spec_l1Total.l0 k l (tot (l.take i)) (i : Int)) (tot l) := by
  induction d with
  | zero =>
    intro i hi
    refine Ev.step (fun _ => rfl) ?_
    refine ev_neg (by omega) (ev_eq (Ev.now _) ?_)
    rw [List.take_of_length_le (by omega)]
  | succ d ih =>
    intro i hi
    refine Ev.step (fun _ => rfl) ?_
    refine ev_pos (by omega) (ev_pos (by omega) ?_)
    have h1 := tot_abs (l.take i) B hB (fun x hx => hb x (List.mem_of_mem_take hx))
    have h2 := hb _ (rd_mem l i (by omega))
    have h3 : ((l.take i).length : Int) * B ≤ 1000 * 1000000000 := (mulb (by omega) (by rw [List.length_take]; omega) hB hB2).2
    have h4 : tot (l.take i) + rd l (i : Int) = tot (l.take (i + 1)) := by rw [take_rd l i (by omega), tot_append]; simp [tot]
    rw [w64n i (by omega), w64 (by omega) (by omega), h4]
    exact ih (i + 1) (by omega)
theorem l1Total_ev (l : List Int) (hl : l.length ≤ 1000) (hb : ∀ x ∈ l, -1000000000 ≤ x ∧ x ≤ 1000000000) : Ev (fun k => spec_l1Total.f k l) (tot l) := by
  unfold spec_l1Total.f
  exact l1Total_loop l hl 1000000000 (by omega) (by omega) hb l.length 0 (by omega)

theorem implSum_loop (l : List Int) (hl : l.length ≤ 1000) (B : Int) (hB : 0 ≤ B) (hB2 : B ≤ 1000000000) (hb : ∀ x ∈ l, -B ≤ x ∧ x ≤ B) (d : Nat) : ∀ i : Nat, i + d = l.length → Ev (fun k => impl_sum.l0 k (tot (l.take i)) l (l.length : Int) (i : Int)) (tot l) := by
  induction d with
  | zero =>
    intro i hi
    refine Ev.step (fun _ => rfl) ?_
    refine ev_neg (by omega) (ev_eq (Ev.now _) ?_)
    rw [List.take_of_length_le (by omega)]
  | succ d ih =>
    intro i hi
    refine Ev.step (fun _ => rfl) ?_
    refine ev_pos (by omega) (ev_pos (by omega) (ev_pos (by omega) ?_))
    have h1 := tot_abs (l.take i) B hB (fun x hx => hb x (List.mem_of_mem_take hx))
    have h2 := hb _ (rd_mem l i (by omega))
    have h3 : ((l.take i).length : Int) * B ≤ 1000 * 1000000000 := (mulb (by omega) (by rw [List.length_take]; omega) hB hB2).2
    have h4 : tot (l.take i) + rd l (i : Int) = tot (l.take (i + 1)) := by rw [take_rd l i (by omega), tot_append]; simp [tot]
    rw [w64n i (by omega), w64 (by omega) (by omega), h4]
    exact ih (i + 1) (by omega)
theorem implSum_ev (l : List Int) (hl : l.length ≤ 1000) (hb : ∀ x ∈ l, -1000000000 ≤ x ∧ x ≤ 1000000000) : Ev (fun k => impl_sum.f k l) (tot l) := by
  unfold impl_sum.f
  exact implSum_loop l hl 1000000000 (by omega) (by omega) hb l.length 0 (by omega)

theorem implFalling_loop (s : Int) (n : Nat) (hs : 0 ≤ s) (hs2 : s ≤ 120) (hn : n ≤ 6) (d : Nat) : ∀ i : Nat, i + d = n → Ev (fun k => impl_falling.l0 k s (rising s (-1) i) (n : Int) (i : Int)) (rising s (-1) n) := by
  induction d with
  | zero =>
    intro i hi
    refine Ev.step (fun _ => rfl) ?_
    refine ev_neg (by omega) (ev_eq (Ev.now _) ?_)
    rw [show i = n by omega]
  | succ d ih =>
    intro i hi
    refine Ev.step (fun _ => rfl) ?_
    refine ev_pos (by omega) ?_
    obtain ⟨e1, e2, e3⟩ := rising_step s (-1) hs hs2 (by omega) (by omega) i (by omega)
    rw [w64n i (by omega), show s - (i : Int) = s + i * (-1) from by omega, e2, mx_comm, e3]
    exact ih (i + 1) (by omega)
theorem implFalling_ev (s n : Int) (hs : 0 ≤ s) (hs2 : s ≤ 120) (hn0 : 0 ≤ n) (hn : n ≤ 6) : Ev (fun k => impl_falling.f k s n) (rising s (-1) n.toNat) := by
  obtain ⟨m, rfl⟩ := Int.eq_ofNat_of_zero_le hn0
  unfold impl_falling.f
  exact implFalling_loop s m hs hs2 (by omega) m 0 (by omega)

theorem implAllWays_ev (l : List Int) (n : Int) (hl : l.length ≤ 1000000000) : Ev (fun k => impl_AllWays.f k l n) (if urnB l = true ∧ 0 ≤ n ∧ n ≤ 6 then rising (tot l) (-1) n.toNat else -1) := by
  have no : Ev (fun k => impl_AllWays.j0 k l n true) (-1) := Ev.step (fun _ => rfl) (Ev.now _)
  unfold impl_AllWays.f
  refine Ev.bind (implUrnOk_ev l hl) ?_
  by_cases h : urnB l = true
  · refine ev_pos h ?_
    obtain ⟨h1, h2, h3⟩ := urnB_bounds h
    have ht := tot_bound l 40 (by omega) h1
    by_cases h4 : n < 0
    · refine ev_pos h4 ?_
      rw [if_neg (by omega)]; exact no
    refine ev_neg h4 ?_
    by_cases h5 : n > 6
    · rw [decide_eq_true h5, if_neg (by omega)]; exact no
    · rw [decide_eq_false h5, if_pos ⟨h, by omega, by omega⟩]
      refine Ev.step (fun _ => rfl) ?_
      exact Ev.bind (implSum_ev l (by omega) (fun x hx => by have := h1 x hx; omega)) (Ev.bind (implFalling_ev _ n (by omega) (by omega) (by omega) (by omega)) (Ev.now _))
  · refine ev_neg h ?_
    rw [if_neg (fun hh => h hh.1)]; exact no

theorem implPower_loop (b : Int) (n : Nat) (h0 : 0 ≤ b) (h1 : b ≤ 140) (hn : n ≤ 6) (d : Nat) : ∀ i : Nat, i + d = n → Ev (fun k => impl_power.l0 k b (b ^ i) (n : Int) (i : Int)) (b ^ n) := by
  induction d with
  | zero =>
    intro i hi
    refine Ev.step (fun _ => rfl) ?_
    refine ev_neg (by omega) (ev_eq (Ev.now _) ?_)
    rw [show i = n by omega]
  | succ d ih =>
    intro i hi
    refine Ev.step (fun _ => rfl) ?_
    refine ev_pos (by omega) ?_
    rw [w64n i (by omega), pow_step b h0 h1 i (by omega)]
    exact ih (i + 1) (by omega)
theorem implPower_ev (b n : Int) (h0 : 0 ≤ b) (h1 : b ≤ 140) (hn0 : 0 ≤ n) (hn : n ≤ 6) : Ev (fun k => impl_power.f k b n) (b ^ n.toNat) := by
  obtain ⟨m, rfl⟩ := Int.eq_ofNat_of_zero_le hn0
  unfold impl_power.f
  have := implPower_loop b m h0 h1 (by omega) m 0 (by omega)
  simpa using this

theorem specPower_loop (b : Int) (n : Nat) (h0 : 0 ≤ b) (h1 : b ≤ 140) (hn : n ≤ 6) (d : Nat) : ∀ i : Nat, i + d = n → Ev (fun k => spec_l3Power.l0 k b (n : Int) (b ^ i) (i : Int)) (b ^ n) := by
  induction d with
  | zero =>
    intro i hi
    refine Ev.step (fun _ => rfl) ?_
    refine ev_neg (by omega) (ev_eq (Ev.now _) ?_)
    rw [show i = n by omega]
  | succ d ih =>
    intro i hi
    refine Ev.step (fun _ => rfl) ?_
    refine ev_pos (by omega) ?_
    rw [w64n i (by omega), pow_step b h0 h1 i (by omega)]
    exact ih (i + 1) (by omega)
theorem specPower_ev (b n : Int) (h0 : 0 ≤ b) (h1 : b ≤ 140) (hn0 : 0 ≤ n) (hn : n ≤ 6) : Ev (fun k => spec_l3Power.f k b n) (b ^ n.toNat) := by
  obtain ⟨m, rfl⟩ := Int.eq_ofNat_of_zero_le hn0
  unfold spec_l3Power.f
  have := specPower_loop b m h0 h1 (by omega) m 0 (by omega)
  simpa using this

theorem lawsPower_loop (b : Int) (n : Nat) (h0 : 0 ≤ b) (h1 : b ≤ 140) (hn : n ≤ 6) (d : Nat) : ∀ i : Nat, i + d = n → Ev (fun k => laws_powerOf.l0 k b (n : Int) (b ^ i) (i : Int)) (b ^ n) := by
  induction d with
  | zero =>
    intro i hi
    refine Ev.step (fun _ => rfl) ?_
    refine ev_neg (by omega) (ev_eq (Ev.now _) ?_)
    rw [show i = n by omega]
  | succ d ih =>
    intro i hi
    refine Ev.step (fun _ => rfl) ?_
    refine ev_pos (by omega) ?_
    rw [w64n i (by omega), pow_step b h0 h1 i (by omega)]
    exact ih (i + 1) (by omega)
theorem lawsPower_ev (b n : Int) (h0 : 0 ≤ b) (h1 : b ≤ 140) (hn0 : 0 ≤ n) (hn : n ≤ 6) : Ev (fun k => laws_powerOf.f k b n) (b ^ n.toNat) := by
  obtain ⟨m, rfl⟩ := Int.eq_ofNat_of_zero_le hn0
  unfold laws_powerOf.f
  have := lawsPower_loop b m h0 h1 (by omega) m 0 (by omega)
  simpa using this

theorem implBackAll_ev (l : List Int) (n : Int) (hl : l.length ≤ 1000000000) : Ev (fun k => impl_BackAll.f k l n) (if urnB l = true ∧ 0 ≤ n ∧ n ≤ 6 then tot l ^ n.toNat else -1) := by
  have no : Ev (fun k => impl_BackAll.j0 k l n true) (-1) := Ev.step (fun _ => rfl) (Ev.now _)
  unfold impl_BackAll.f
  refine Ev.bind (implUrnOk_ev l hl) ?_
  by_cases h : urnB l = true
  · refine ev_pos h ?_
    obtain ⟨h1, h2, h3⟩ := urnB_bounds h
    have ht := tot_bound l 40 (by omega) h1
    by_cases h4 : n < 0
    · refine ev_pos h4 ?_
      rw [if_neg (by omega)]; exact no
    refine ev_neg h4 ?_
    by_cases h5 : n > 6
    · rw [decide_eq_true h5, if_neg (by omega)]; exact no
    · rw [decide_eq_false h5, if_pos ⟨h, by omega, by omega⟩]
      refine Ev.step (fun _ => rfl) ?_
      exact Ev.bind (implSum_ev l (by omega) (fun x hx => by have := h1 x hx; omega)) (Ev.bind (implPower_ev _ n (by omega) (by omega) (by omega) (by omega)) (Ev.now _))
  · refine ev_neg h ?_
    rw [if_neg (fun hh => h hh.1)]; exact no

theorem specBackAll_ev (l : List Int) (n : Int) (hl : l.length ≤ 1000000000) : Ev (fun k => spec_BackAll.f k l n) (if urnB l = true ∧ 0 ≤ n ∧ n ≤ 6 then tot l ^ n.toNat else -1) := by
  have no : Ev (fun k => spec_BackAll.j0 k l n true) (-1) := Ev.step (fun _ => rfl) (Ev.now _)
  unfold spec_BackAll.f
  refine Ev.bind (specUrnOk_ev l hl) ?_
  by_cases h : urnB l = true
  · refine ev_pos h ?_
    obtain ⟨h1, h2, h3⟩ := urnB_bounds h
    have ht := tot_bound l 40 (by omega) h1
    rw [l1In_f]
    by_cases h4 : 0 ≤ n ∧ n ≤ 6
    · rw [if_pos ⟨h, h4⟩, show inB n 0 6 = true from by simp [inB, h4]]
      refine Ev.bind (Ev.now _) (Ev.step (fun _ => rfl) ?_)
      exact Ev.bind (l1Total_ev l (by omega) (fun x hx => by have := h1 x hx; omega)) (Ev.bind (specPower_ev _ n (by omega) (by omega) (by omega) (by omega)) (Ev.now _))
    · rw [if_neg (fun hh => h4 hh.2), show inB n 0 6 = false from by simp [inB]; omega]
      exact no
  · refine ev_neg h ?_
    rw [if_neg (fun hh => h hh.1)]; exact no

theorem implBackWays_loop (u ws : List Int) (hu : ∀ x ∈ u, 0 ≤ x ∧ x ≤ 40) (hw : ∀ x ∈ ws, 0 ≤ x ∧ x < u.length) (hl : ws.length ≤ 6) (d : Nat) : ∀ i : Nat, i + d = ws.length → Ev (fun k => impl_BackWays.l0 k u (prodF (rd u) (ws.take i)) ws (ws.length : Int) (i : Int)) (prodF (rd u) ws) := by
  induction d with
  | zero =>
    intro i hi
    refine Ev.step (fun _ => rfl) ?_
    refine ev_neg (by omega) (ev_eq (Ev.now _) ?_)
    rw [List.take_of_length_le (by omega)]
  | succ d ih =>
    intro i hi
    refine Ev.step (fun _ => rfl) ?_
    have hc := hw _ (rd_mem ws i (by omega))
    refine ev_pos (by omega) (ev_pos (by omega) (ev_pos (by omega) (ev_pos hc.1 (ev_pos hc.2 ?_))))
    have hb := prodF_bound' (rd u) 40 (by omega) (by omega) (ws.take (i + 1)) (by rw [List.length_take]; omega) (fun x hx => by
      have := hw x (List.mem_of_mem_take hx); exact hu _ (rd_range u x this.1 this.2))
    have e : prodF (rd u) (ws.take i) * rd u (rd ws (i : Int)) = prodF (rd u) (ws.take (i + 1)) := by rw [take_rd ws i (by omega), prodF_append]; simp [prodF]
    rw [w64n i (by omega), e, w64 (by omega) (by omega)]
    exact ih (i + 1) (by omega)
theorem implBackWays_ev (u ws : List Int) (hl : u.length ≤ 1000000000) (hl2 : ws.length ≤ 1000000000) : Ev (fun k => impl_BackWays.f k u ws) (if urnB u = true ∧ wordB u.length ws = true then prodF (rd u) ws else -1) := by
  have no : Ev (fun k => impl_BackWays.j0 k u ws true) (-1) := Ev.step (fun _ => rfl) (Ev.now _)
  unfold impl_BackWays.f
  refine Ev.bind (implUrnOk_ev u hl) ?_
  by_cases h : urnB u = true
  · refine ev_pos h (Ev.bind (implWordOk_ev _ ws hl2) ?_)
    obtain ⟨h1, h2, h3⟩ := urnB_bounds h
    cases h4 : wordB u.length ws with
    | false => rw [if_neg (fun hh => by cases hh.2)]; exact no
    | true =>
      rw [if_pos ⟨h, rfl⟩]
      obtain ⟨h5, h6, h7, h8⟩ := wordB_bounds h4
      exact Ev.step (fun _ => rfl) (implBackWays_loop u ws h1 h5 h8 ws.length 0 (by omega))
  · refine ev_neg h ?_
    rw [if_neg (fun hh => h hh.1)]; exact no

theorem l20Open_f (l : List Int) (hb : ∀ x ∈ l, (Lit.int .u8 x).wf = true) : ∃ b, spec_l20Open.f l = some (b, 0) ∧ OkB b := by
  unfold spec_l20Open.f
  by_cases h : (l.length : Int) > 2000
  · rw [if_pos h, if_pos (by omega)]
    exact ⟨_, rfl, fun x hx => u8_wf (hb x (List.mem_of_mem_take hx)), by rw [List.length_take]; omega⟩
  · rw [if_neg h]
    exact ⟨_, rfl, fun x hx => u8_wf (hb x hx), by omega⟩

theorem pick_ev {b : List Int} (hb : OkB b) {p : Int} (hp0 : 0 ≤ p) (hp : p ≤ 1000000) (n : Int) (hn0 : 1 ≤ n) (hn : n ≤ 1000000) : ∃ v, Ev (fun k => spec_l20Rd_pick.f k b p n) (v, p + 1) ∧ 0 ≤ v ∧ v < n := by
  obtain ⟨hb1, hb2⟩ := hb
  unfold spec_l20Rd_pick.f
  have e1 : wrap64 (p + 1) = p + 1 := w64 (by omega) (by omega)
  by_cases h0 : b.length = 0
  · refine ⟨0, ev_neg (by omega) ?_, by omega, by omega⟩
    rw [show ((b.length : Int) == 0) = true from by simp [h0], e1]
    exact Ev.step (fun _ => rfl) (Ev.now _)
  · have hz : ((b.length : Int) == 0) = false := by simp; intro hh; exact h0 (by simp [hh])
    have hat : ∀ i : Int, 0 ≤ i → i < b.length → 0 ≤ rd b i ∧ rd b i ≤ 255 := fun i h1 h2 => hb1 _ (rd_range b i h1 h2)
    have e2 : wrap64 (p + 1 - 1) = p := by rw [show p + 1 - 1 = p by omega]; exact w64 (by omega) (by omega)
    by_cases h1 : p < (b.length : Int)
    · have hr := hat p hp0 h1
      have ht := tmod_range (rd b p) n hr.1 (by omega)
      refine ⟨Int.tmod (rd b p) n, ev_neg (by omega) ?_, ht.1, ht.2⟩
      rw [hz, e1]
      refine Ev.step (fun _ => by rw [spec_l20Rd_pick.j0]) (ev_neg (by simp) ?_)
      rw [e2, w64 (x := rd b p) (by omega) (by omega)]
      exact ev_pos h1 (ev_pos hp0 (ev_neg (by omega) (Ev.now _)))
    · have m1 := tmod_range p (b.length : Int) hp0 (by omega)
      have e3 : wrap64 (p * 7) = p * 7 := w64 (by omega) (by omega)
      have e4 : wrap64 (p * 7 + 3) = p * 7 + 3 := w64 (by omega) (by omega)
      have m2 := tmod_range (p * 7 + 3) (b.length : Int) (by omega) (by omega)
      have r1 := hat _ m1.1 m1.2
      have r2 := hat _ m2.1 m2.2
      have d1 := tdiv_range p (b.length : Int) hp0 (by omega)
      have key : ∀ x y z : Int, 0 ≤ x → x ≤ 255 → 0 ≤ y → y ≤ 255 → 0 ≤ z → z ≤ 1000000 →
          wrap64 (wrap64 (wrap64 (wrap64 (wrap64 x * 131) + wrap64 (wrap64 y * 1117)) + wrap64 (p * 29)) + wrap64 (wrap64 z * 53)) = x * 131 + y * 1117 + p * 29 + z * 53 := by
        intro x y z _ _ _ _ _ _
        rw [w64 (x := x) (by omega) (by omega), w64 (x := y) (by omega) (by omega), w64 (x := z) (by omega) (by omega), w64 (x := x * 131) (by omega) (by omega), w64 (x := y * 1117) (by omega) (by omega), w64 (x := p * 29) (by omega) (by omega), w64 (x := z * 53) (by omega) (by omega),
          w64 (x := x * 131 + y * 1117) (by omega) (by omega), w64 (x := x * 131 + y * 1117 + p * 29) (by omega) (by omega), w64 (by omega) (by omega)]
      obtain ⟨X, hX, hX0, hX1⟩ : ∃ X, wrap64 (wrap64 (wrap64 (wrap64 (wrap64 (rd b (Int.tmod p b.length)) * 131) + wrap64 (wrap64 (rd b (Int.tmod (p * 7 + 3) b.length)) * 1117)) + wrap64 (p * 29)) + wrap64 (wrap64 (Int.tdiv p b.length) * 53)) = X ∧ 0 ≤ X ∧ X ≤ 100000000 :=
        ⟨_, key _ _ _ r1.1 r1.2 r2.1 r2.2 d1.1 (by omega), by omega, by omega⟩
      have d2 := tdiv_range X 64 hX0 (by omega)
      have hx := xor_nonneg X (Int.tdiv X 64) hX0 (by omega) d2.1 (by omega)
      have ht := tmod_range _ n hx (by omega)
      refine ⟨Int.tmod (Go.bits .xor .i64 X (Int.tdiv X 64)) n, ev_neg (by omega) ?_, ht.1, ht.2⟩
      rw [hz, e1]
      refine Ev.step (fun _ => by rw [spec_l20Rd_pick.j0]) (ev_neg (by simp) ?_)
      rw [e2, e3, e4, hX, w64 (x := Int.tdiv X 64) (by omega) (by omega)]
      exact ev_neg h1 (ev_neg (by omega) (ev_pos m1.1 (ev_pos m1.2 (ev_pos m2.1 (ev_pos m2.2 (ev_neg (by omega) (Ev.now _)))))))

theorem odd_ev {b : List Int} (hb : OkB b) {p : Int} (hp0 : 0 ≤ p) (hp : p ≤ 1000000) (n : Int) (hn0 : 1 ≤ n) (hn : n ≤ 1000000) : ∃ v, Ev (fun k => spec_l20Rd_odd.f k b p n) (v, p + 1) := by
  obtain ⟨v, hv, _, _⟩ := pick_ev hb hp0 hp n hn0 hn
  unfold spec_l20Rd_odd.f
  exact ⟨_, ev_pos (by omega) (Ev.bind hv (Ev.now _))⟩

theorem l20Urn_loop {b : List Int} (hb : OkB b) (n : Int) (hn0 : 1 ≤ n) (hn : n ≤ 1000000) (d : Nat) : ∀ (l : List Int) (p : Int), 0 ≤ p → p + d ≤ 900000 → d ≤ 3 → 1 ≤ l.length + d → l.length + d ≤ 3 → (∀ x ∈ l, 0 ≤ x ∧ x ≤ 5) →
    ∃ u p', Ev (fun k => spec_l20Urn.l0 k n l (d : Int) b p) (u, p') ∧ p ≤ p' ∧ p' ≤ p + d + 5 ∧ u.length ≤ 4 ∧ ∀ x ∈ u, -1 ≤ x ∧ x ≤ 41 := by
  induction d with
  | zero =>
    intro l p hp0 hp _ hl1 hl2 hx
    obtain ⟨v, hv⟩ := odd_ev hb hp0 (by omega) n hn0 hn
    cases v with
    | false =>
      exact ⟨l, p + 1, Ev.step (fun _ => rfl) (ev_neg (by omega) (Ev.bind hv (Ev.now _))), by omega, by omega, by omega, fun x h => by have := hx x h; omega⟩
    | true =>
      obtain ⟨w, hw, hw0, hw1⟩ := pick_ev hb (p := p + 1) (by omega) (by omega) 3 (by omega) (by omega)
      by_cases h0 : w = 0
      · exact ⟨[], p + 1 + 1, Ev.step (fun _ => rfl) (ev_neg (by omega) (Ev.bind hv (Ev.bind hw (ev_pos h0 (Ev.now _))))), by omega, by omega, by simp, fun x h => by simp at h⟩
      · by_cases h1 : w = 1
        · obtain ⟨y, hy, hy0, hy1⟩ := pick_ev hb (p := p + 1 + 1) (by omega) (by omega) 2 (by omega) (by omega)
          refine ⟨l.set 0 (rd [-1, 41] y), p + 1 + 1 + 1, Ev.step (fun _ => rfl) (ev_neg (by omega) (Ev.bind hv (Ev.bind hw (ev_neg h0 (ev_pos h1 (Ev.bind (Ev.now _) (Ev.bind hy (ev_pos hy0 (ev_pos (by simpa using hy1) (ev_pos (by omega) (Ev.now _))))))))))), by omega, by omega, by rw [List.length_set]; omega, ?_⟩
          intro x h
          rcases List.mem_or_eq_of_mem_set h with h | rfl
          · have := hx x h; omega
          · have : y = 0 ∨ y = 1 := by omega
            rcases this with rfl | rfl <;> simp [rd]
        · exact ⟨[1, 1, 1, 1], p + 1 + 1, Ev.step (fun _ => rfl) (ev_neg (by omega) (Ev.bind hv (Ev.bind hw (ev_neg h0 (ev_neg h1 (Ev.now _)))))), by omega, by omega, by simp, fun x h => by simp at h; omega⟩
  | succ d ih =>
    intro l p hp0 hp hd hl1 hl2 hx
    obtain ⟨v, hv, hv0, hv1⟩ := pick_ev hb hp0 (by omega) 6 (by omega) (by omega)
    obtain ⟨u, p', hu, h1, h2, h3, h4⟩ := ih (l ++ [v]) (p + 1) (by omega) (by omega) (by omega) (by simp; omega) (by simp; omega) (fun x h => by
      rcases List.mem_append.1 h with h | h
      · exact hx x h
      · have : x = v := by simpa using h
        omega)
    refine ⟨u, p', Ev.step (fun _ => rfl) (ev_pos (by omega) (Ev.bind hv (ev_pos (by omega) ?_))), by omega, by omega, h3, h4⟩
    rw [w64 (by omega) (by omega), show ((d + 1 : Nat) : Int) - 1 = (d : Int) from by omega]
    exact hu
theorem l20Urn_ev {b : List Int} (hb : OkB b) {p : Int} (hp0 : 0 ≤ p) (hp : p ≤ 800000) (n : Int) (hn0 : 1 ≤ n) (hn : n ≤ 1000000) :
    ∃ u p', Ev (fun k => spec_l20Urn.f k b p n) (u, p') ∧ p ≤ p' ∧ p' ≤ p + 11 ∧ u.length ≤ 4 ∧ ∀ x ∈ u, -1 ≤ x ∧ x ≤ 41 := by
  obtain ⟨v, hv, hv0, hv1⟩ := pick_ev hb hp0 (by omega) 3 (by omega) (by omega)
  obtain ⟨m, rfl⟩ := Int.eq_ofNat_of_zero_le hv0
  obtain ⟨u, p', hu, h1, h2, h3, h4⟩ := l20Urn_loop hb n hn0 hn (1 + m) [] (p + 1) (by omega) (by omega) (by omega) (by simp) (by simp; omega) (by simp)
  refine ⟨u, p', ?_, by omega, by omega, h3, h4⟩
  unfold spec_l20Urn.f
  refine Ev.bind hv ?_
  rw [w64 (by omega) (by omega), show (1 : Int) + (m : Int) = ((1 + m : Nat) : Int) from by omega]
  exact hu

theorem alive_ev : Ev (fun k => laws_alive.f k) true := by
  unfold laws_alive.f
  exact Ev.bind (implUrnOk_ev [1] (by simp)) (ev_pos (by decide) (Ev.bind (implUrnOk_ev [] (by simp)) (Ev.now _)))

theorem DrawAllWays_ev (l : List Int) (hb : ∀ x ∈ l, (Lit.int .u8 x).wf = true) : ∃ u c, Ev (fun k => spec_DrawAllWays.f k l) (u, c) ∧ u.length ≤ 4 := by
  obtain ⟨b, hf, hk⟩ := l20Open_f l hb
  obtain ⟨u, p, hu, h1, h2, h3, _⟩ := l20Urn_ev hk (p := 0) (by omega) (by omega) 12 (by omega) (by omega)
  obtain ⟨v1, e1, _⟩ := pick_ev hk (p := p) (by omega) (by omega) 6 (by omega) (by omega)
  obtain ⟨v2, e2, _⟩ := pick_ev hk (p := p + 1) (by omega) (by omega) 30 (by omega) (by omega)
  obtain ⟨v3, e3, _⟩ := pick_ev hk (p := p + 1 + 1) (by omega) (by omega) 40 (by omega) (by omega)
  exact ⟨u, _, by
    unfold spec_DrawAllWays.f
    rw [hf]
    exact Ev.bind (Ev.now _) (Ev.bind hu (Ev.bind e1 (Ev.bind e2 (Ev.bind e3 (Ev.now _))))), h3⟩

theorem wordOf_loop (c : Nat) (hc1 : 1 ≤ c) (m : Nat) (hm : m ≤ 100) (d : Nat) : ∀ (i n : Nat) (l : List Int), n ≤ 1000000000 → i + d = m → l.length = i → Ev (fun k => laws_wordOf.l0 k (c : Int) (m : Int) (n : Int) l (i : Int)) (l ++ digits c d n) := by
  induction d with
  | zero =>
    intro i n l hn hi hl
    refine Ev.step (fun _ => rfl) ?_
    exact ev_neg (by omega) (ev_eq (Ev.now _) (by simp [digits]))
  | succ d ih =>
    intro i n l hn hi hl
    refine Ev.step (fun _ => rfl) ?_
    refine ev_pos (by omega) (ev_neg (by omega) (ev_pos (by omega) ?_))
    have e1 : Int.tdiv (n : Int) (c : Int) = ((n / c : Nat) : Int) := by rw [Int.tdiv_eq_ediv_of_nonneg (by omega)]; simp
    have e2 : Int.tmod (n : Int) (c : Int) = ((n % c : Nat) : Int) := by rw [Int.tmod_eq_emod_of_nonneg (by omega)]; simp
    have hq : n / c ≤ n := Nat.div_le_self n c
    have h9 : 0 ≤ (n : Int) / (c : Int) := Int.ediv_nonneg (by omega) (by omega)
    have h10 : (n : Int) / (c : Int) ≤ n := Int.ediv_le_self _ (by omega)
    rw [e1, e2, w64 (by omega) (by omega), w64n i (by omega)]
    refine ev_eq (ih (i + 1) (n / c) (l ++ [((n % c : Nat) : Int)]) (by omega) (by omega) (by simp [hl])) ?_
    simp [digits]
theorem wordOf_ev (c : Nat) (hc1 : 1 ≤ c) (m n : Nat) (hm : m ≤ 100) (hn : n ≤ 1000000000) : Ev (fun k => laws_wordOf.f k (c : Int) (m : Int) (n : Int)) (digits c m n) := by
  unfold laws_wordOf.f
  refine ev_eq (wordOf_loop c hc1 m hm m 0 n [] hn (by omega) rfl) ?_
  simp

theorem fall_le (s : Int) (hs : 0 ≤ s) : ∀ m : Nat, rising s (-1) m ≤ s ^ m := by
  intro m
  induction m with
  | zero => simp [rising]
  | succ m ih =>
    simp only [rising]
    rw [Int.pow_succ]
    have h1 : 0 ≤ mx (s + (m : Int) * -1) 0 ∧ mx (s + (m : Int) * -1) 0 ≤ s := by unfold mx; split <;> omega
    have h2 : 0 ≤ s ^ m := (pow_bound s s hs (Int.le_refl _) m).1
    exact Int.le_trans (Int.mul_le_mul_of_nonneg_right ih h1.1) (Int.mul_le_mul_of_nonneg_left h1.2 h2)
theorem FnBackAll_loop (u : List Int) (hu : urnB u = true) (m : Nat) (hm : m ≤ 4) (d : Nat) : ∀ i : Nat, i + d = u.length ^ m →
    Ev (fun k => laws_FnBackAll.l0 k u (m : Int) (tot u ^ m) (sumN (fun n => prodF (rd u) (digits u.length m n)) i) (i : Int)) true := by
  obtain ⟨b1, b2, b3⟩ := urnB_bounds hu
  have hb := tot_bound u 40 (by omega) b1
  have hpow := lawsPower_ev (u.length : Int) (m : Int) (by omega) (by omega) (by omega) (by omega)
  rw [Int.toNat_natCast, ← Int.natCast_pow] at hpow
  have hcm : u.length ^ m ≤ 3 ^ 4 := Nat.le_trans (Nat.pow_le_pow_left b3 m) (Nat.pow_le_pow_right (by omega) hm)
  have hF : ∀ n, 0 ≤ prodF (rd u) (digits u.length m n) ∧ prodF (rd u) (digits u.length m n) ≤ 7529536000000 := fun n =>
    prodF_bound' (rd u) 40 (by omega) (by omega) _ (by rw [digits_length]; omega) (fun x hx => by
      have := digits_range u.length b2 m n x hx
      exact b1 _ (rd_range u x this.1 this.2))
  induction d with
  | zero =>
    intro i hi
    refine Ev.step (fun _ => rfl) ?_
    refine Ev.bind hpow (ev_neg (by omega) ?_)
    have e : sumN (fun n => prodF (rd u) (digits u.length m n)) i = tot u ^ m := by
      rw [show i = u.length ^ m by omega, wsum_digits u.length b2 m (prodF (rd u)), wsum_prod]
    refine ev_pos e ?_
    have ha := implAllWays_ev u (m : Int) (by omega)
    rw [if_pos ⟨hu, by omega, by omega⟩, Int.toNat_natCast] at ha
    exact Ev.bind ha (ev_eq (Ev.now _) (decide_eq_true (fall_le (tot u) hb.1 m)))
  | succ d ih =>
    intro i hi
    refine Ev.step (fun _ => rfl) ?_
    have hw := wordOf_ev u.length b2 m i (by omega) (by omega)
    have hbw := implBackWays_ev u (digits u.length m i) (by omega) (by rw [digits_length]; omega)
    have hwb : wordB u.length (digits u.length m i) = true := by
      simp only [wordB, colB, Bool.and_eq_true, List.all_eq_true, decide_eq_true_eq, digits_length]
      exact ⟨digits_range u.length b2 m i, by omega, by omega⟩
    rw [if_pos ⟨hu, hwb⟩] at hbw
    have hs := sumN_bound (fun n => prodF (rd u) (digits u.length m n)) 7529536000000 (i + 1) (fun n _ => hF n)
    refine Ev.bind hpow (ev_pos (by omega) (Ev.bind hw (Ev.bind hbw ?_)))
    have e : sumN (fun n => prodF (rd u) (digits u.length m n)) i + prodF (rd u) (digits u.length m i) = sumN (fun n => prodF (rd u) (digits u.length m n)) (i + 1) := rfl
    rw [e, w64 (by omega) (by omega), w64n i (by omega)]
    exact ih (i + 1) (by omega)
theorem FnBackAll : laws_FnBackAll.Pure := by
  intro l hl0 _ hb
  refine Ev.rounds (g := fun k => laws_FnBackAll.f k l) ?_
  unfold laws_FnBackAll.f
  by_cases h : (l.length : Int) > 1048576
  · exact ev_pos h (Ev.now _)
  refine ev_neg h ?_
  obtain ⟨u, m, hd0, hl⟩ := DrawAllWays_ev l hb
  have hd : Ev (fun k => spec_DrawBackAll.f k l) (u, m) := by
    unfold spec_DrawBackAll.f
    exact Ev.bind hd0 (Ev.now _)
  refine Ev.bind hd (Ev.bind (implBackAll_ev u m (by omega)) (Ev.bind (specBackAll_ev u m (by omega)) (ev_pos rfl ?_)))
  by_cases hc : urnB u = true ∧ 0 ≤ m ∧ m ≤ 6
  · rw [if_pos hc]
    have hb2 := tot_bound u 40 (by omega) (urnB_bounds hc.1).1
    have h3 := (pow_bound (tot u) (tot u) hb2.1 (Int.le_refl _) m.toNat).1
    refine ev_neg (by omega) ?_
    by_cases h4 : m > 4
    · rw [decide_eq_true h4]
      exact Ev.step (fun _ => rfl) (ev_pos h3 (Ev.bind alive_ev (Ev.now _)))
    · rw [decide_eq_false h4]
      obtain ⟨n, rfl⟩ := Int.eq_ofNat_of_zero_le hc.2.1
      exact Ev.step (fun _ => rfl) (FnBackAll_loop u hc.1 n (by omega) _ 0 (Nat.zero_add _))
  · rw [if_neg hc]
    refine ev_pos (by omega) (Ev.step (fun _ => by rw [laws_FnBackAll.j0]) ?_)
    refine ev_pos rfl ?_
    exact ev_neg (by omega) (ev_pos rfl (Ev.bind alive_ev (Ev.now _)))

end Go.Proofs.Ytlakokejoifamaa.Pure
