/- The law FnExactBackAll: for every input the printed function of the law answers true. No condition. -/
import Derived.Test.YtieiflieppmboaaPFnExactBackAllx2
import Derived.Test.YtieiflieppmboaaPlain
set_option linter.unusedVariables false
set_option linter.unusedSimpArgs false
namespace Go.Proofs.Ytieiflieppmboaa.Pure
open Go.RowKit Go.Proofs.Ytieiflieppmboaa.PFnExactBackAll Go.Proofs.YtieiflieppmboaaW.PrintWords Go.Proofs.YtieiflieppmboaaW.PrintLast Go.Proofs.YtieiflieppmboaaW.PrintMore Go.Proofs.Ytieiflieppmboaa.Plain

theorem l1In_f (x a b : Int) : spec_l1In.f x a b = some (inB x a b) := by
  unfold spec_l1In.f inB
  by_cases h : x ≥ a
  · rw [if_pos h]; congr 1; simp [h]
  · rw [if_neg h]; congr 1; simp; omega

theorem coloursOk_f (x : Int) : impl_coloursOk.f x = some (colB x) := by
  unfold impl_coloursOk.f colB
  by_cases h : x ≥ 1
  · rw [if_pos h]; congr 1; simp [h]
  · rw [if_neg h]; congr 1; simp; omega

theorem toIntS_set (l : List Int) (i : Nat) (h : i < l.length) : (l.take i ++ List.replicate (l.length - i) 0).set i (rd l (i : Int)) = l.take (i + 1) ++ List.replicate (l.length - (i + 1)) 0 := by
  rw [take_rd l i h, List.set_append_right _ _ (by rw [List.length_take]; omega)]
  have e : l.length - i = (l.length - (i + 1)) + 1 := by omega
  rw [e, List.replicate_succ, List.length_take, Nat.min_eq_left (by omega), Nat.sub_self, List.set_cons_zero, List.append_assoc]
  rfl
theorem toIntS_loop (l : List Int) (hl : l.length ≤ 1000000000) (d : Nat) : ∀ i : Nat, i + d = l.length → Ev (fun k => laws_toIntS.l0 k l (l.take i ++ List.replicate (l.length - i) 0) (i : Int)) l := by
  induction d with
  | zero =>
    intro i hi
    refine Ev.step (fun _ => rfl) ?_
    refine ev_neg (by omega) ?_
    have : i = l.length := by omega
    subst this
    refine ev_eq (Ev.now _) ?_
    simp
  | succ d ih =>
    intro i hi
    refine Ev.step (fun _ => rfl) ?_
    refine ev_pos (by omega) (ev_pos (by omega) (ev_pos (by simp; omega) ?_))
    rw [show ((i : Int)).toNat = i from by simp, toIntS_set l i (by omega), w64n i (by omega)]
    exact ih (i + 1) (by omega)
theorem toIntS_ev (l : List Int) (hl : l.length ≤ 1000000000) : Ev (fun k => laws_toIntS.f k l) l := by
  unfold laws_toIntS.f
  refine ev_pos (by omega) (ev_pos (by simp; omega) ?_)
  have := toIntS_loop l hl l.length 0 (by omega)
  simpa using this

theorem eqIntS_loop (l : List Int) (hl : l.length ≤ 1000000000) (d : Nat) : ∀ i : Nat, i + d = l.length → Ev (fun k => laws_eqIntS.l0 k l l (i : Int)) true := by
  induction d with
  | zero =>
    intro i hi
    refine Ev.step (fun _ => rfl) ?_
    exact ev_neg (by omega) (Ev.now _)
  | succ d ih =>
    intro i hi
    refine Ev.step (fun _ => rfl) ?_
    refine ev_pos (by omega) (ev_pos (by omega) (ev_pos (by omega) (ev_pos rfl ?_)))
    rw [w64n i (by omega)]
    exact ih (i + 1) (by omega)
theorem eqIntS_ev (l : List Int) (hl : l.length ≤ 1000000000) : Ev (fun k => laws_eqIntS.f k l l) true := by
  unfold laws_eqIntS.f
  exact ev_pos rfl (eqIntS_loop l hl l.length 0 (by omega))

theorem implUrnOk_loop (l : List Int) (hl : l.length ≤ 1000000000) (d : Nat) : ∀ i : Nat, i + d = l.length → Ev (fun k => impl_UrnOk.l0 k l l (l.length : Int) (i : Int)) ((l.drop i).all urnE && colB l.length) := by
  induction d with
  | zero =>
    intro i hi
    refine Ev.step (fun _ => rfl) ?_
    refine ev_neg (by omega) ?_
    rw [coloursOk_f, List.drop_eq_nil_of_le (by omega)]
    exact Ev.now _
  | succ d ih =>
    intro i hi
    refine Ev.step (fun _ => rfl) ?_
    refine ev_pos (by omega) (ev_pos (by omega) (ev_pos (by omega) ?_))
    rw [drop_rd l i (by omega), List.all_cons]
    by_cases h1 : rd l (i : Int) < 0
    · refine ev_pos h1 (ev_eq (Ev.now _) ?_)
      rw [show urnE (rd l (i : Int)) = false from by simp [urnE]; omega]; rfl
    · refine ev_neg h1 ?_
      by_cases h2 : rd l (i : Int) > 40
      · refine ev_pos h2 (ev_eq (Ev.now _) ?_)
        rw [show urnE (rd l (i : Int)) = false from by simp [urnE]; omega]; rfl
      · refine ev_neg h2 ?_
        rw [w64n i (by omega), show urnE (rd l (i : Int)) = true from by simp [urnE]; omega, Bool.true_and]
        exact ih (i + 1) (by omega)
theorem implUrnOk_ev (l : List Int) (hl : l.length ≤ 1000000000) : Ev (fun k => impl_UrnOk.f k l) (urnB l) := by
  unfold impl_UrnOk.f
  exact implUrnOk_loop l hl l.length 0 (by omega)

theorem specUrnOk_loop (l : List Int) (hl : l.length ≤ 1000000000) (d : Nat) : ∀ i : Nat, i + d = l.length → Ev (fun k => spec_UrnOk.l0 k l (i : Int)) ((l.drop i).all urnE && colB l.length) := by
  induction d with
  | zero =>
    intro i hi
    refine Ev.step (fun _ => rfl) ?_
    refine ev_neg (by omega) ?_
    rw [l1In_f, List.drop_eq_nil_of_le (by omega)]
    exact Ev.now _
  | succ d ih =>
    intro i hi
    refine Ev.step (fun _ => rfl) ?_
    refine ev_pos (by omega) (ev_pos (by omega) ?_)
    rw [drop_rd l i (by omega), List.all_cons, l1In_f, show inB (rd l (i : Int)) 0 40 = urnE (rd l (i : Int)) from rfl]
    cases h : urnE (rd l (i : Int)) with
    | false => exact Ev.now _
    | true =>
      simp only [Option.bind_some, if_true, Bool.true_and]
      rw [w64n i (by omega)]
      exact ih (i + 1) (by omega)
theorem specUrnOk_ev (l : List Int) (hl : l.length ≤ 1000000000) : Ev (fun k => spec_UrnOk.f k l) (urnB l) := by
  unfold spec_UrnOk.f
  exact specUrnOk_loop l hl l.length 0 (by omega)

theorem l1Total_loop (l : List Int) (hl : l.length ≤ 1000) (B : Int) (hB : 0 ≤ B) (hB2 : B ≤ 1000000000) (hb : ∀ x ∈ l, 0 ≤ x ∧ x ≤ B) (d : Nat) : ∀ i : Nat, i + d = l.length → Ev (fun k => spec_l1Total.l0 k l (tot (l.take i)) (i : Int)) (tot l) := by
  induction d with
  | zero =>
    intro i hi
    refine Ev.step (fun _ => rfl) ?_
    refine ev_neg (by omega) (ev_eq (Ev.now _) ?_)
    rw [List.take_of_length_le (by omega)]
  | succ d ih =>
    intro i hi
    refine Ev.step (fun _ => rfl) ?_
    refine ev_pos (by omega) (ev_pos (by omega) ?_)
    have h1 := tot_bound (l.take i) B hB (fun x hx => hb x (List.mem_of_mem_take hx))
    have h2 := hb _ (rd_mem l i (by omega))
    have h3 : ((l.take i).length : Int) * B ≤ 1000 * 1000000000 := (mulb (by omega) (by rw [List.length_take]; omega) hB hB2).2
    have h4 : tot (l.take i) + rd l (i : Int) = tot (l.take (i + 1)) := by rw [take_rd l i (by omega), tot_append]; simp [tot]
    rw [w64n i (by omega), w64 (by omega) (by omega), h4]
    exact ih (i + 1) (by omega)
theorem l1Total_ev (l : List Int) (hl : l.length ≤ 1000) (hb : ∀ x ∈ l, 0 ≤ x ∧ x ≤ 1000000000) : Ev (fun k => spec_l1Total.f k l) (tot l) := by
  unfold spec_l1Total.f
  exact l1Total_loop l hl 1000000000 (by omega) (by omega) hb l.length 0 (by omega)

theorem implSum_loop (l : List Int) (hl : l.length ≤ 1000) (B : Int) (hB : 0 ≤ B) (hB2 : B ≤ 1000000000) (hb : ∀ x ∈ l, 0 ≤ x ∧ x ≤ B) (d : Nat) : ∀ i : Nat, i + d = l.length → Ev (fun k => impl_sum.l0 k (tot (l.take i)) l (l.length : Int) (i : Int)) (tot l) := by
  induction d with
  | zero =>
    intro i hi
    refine Ev.step (fun _ => rfl) ?_
    refine ev_neg (by omega) (ev_eq (Ev.now _) ?_)
    rw [List.take_of_length_le (by omega)]
  | succ d ih =>
    intro i hi
    refine Ev.step (fun _ => rfl) ?_
    refine ev_pos (by omega) (ev_pos (by omega) (ev_pos (by omega) ?_))
    have h1 := tot_bound (l.take i) B hB (fun x hx => hb x (List.mem_of_mem_take hx))
    have h2 := hb _ (rd_mem l i (by omega))
    have h3 : ((l.take i).length : Int) * B ≤ 1000 * 1000000000 := (mulb (by omega) (by rw [List.length_take]; omega) hB hB2).2
    have h4 : tot (l.take i) + rd l (i : Int) = tot (l.take (i + 1)) := by rw [take_rd l i (by omega), tot_append]; simp [tot]
    rw [w64n i (by omega), w64 (by omega) (by omega), h4]
    exact ih (i + 1) (by omega)
theorem implSum_ev (l : List Int) (hl : l.length ≤ 1000) (hb : ∀ x ∈ l, 0 ≤ x ∧ x ≤ 1000000000) : Ev (fun k => impl_sum.f k l) (tot l) := by
  unfold impl_sum.f
  exact implSum_loop l hl 1000000000 (by omega) (by omega) hb l.length 0 (by omega)

theorem implPower_loop (b : Int) (n : Nat) (h0 : 0 ≤ b) (h1 : b ≤ 140) (hn : n ≤ 6) (d : Nat) : ∀ i : Nat, i + d = n → Ev (fun k => impl_power.l0 k b (b ^ i) (n : Int) (i : Int)) (b ^ n) := by
  induction d with
  | zero =>
    intro i hi
    refine Ev.step (fun _ => rfl) ?_
    refine ev_neg (by omega) (ev_eq (Ev.now _) ?_)
    rw [show i = n by omega]
  | succ d ih =>
    intro i hi
    refine Ev.step (fun _ => rfl) ?_
    refine ev_pos (by omega) ?_
    rw [w64n i (by omega), pow_step b h0 h1 i (by omega)]
    exact ih (i + 1) (by omega)
theorem implPower_ev (b n : Int) (h0 : 0 ≤ b) (h1 : b ≤ 140) (hn0 : 0 ≤ n) (hn : n ≤ 6) : Ev (fun k => impl_power.f k b n) (b ^ n.toNat) := by
  obtain ⟨m, rfl⟩ := Int.eq_ofNat_of_zero_le hn0
  unfold impl_power.f
  have := implPower_loop b m h0 h1 (by omega) m 0 (by omega)
  simpa using this

theorem specPower_loop (b : Int) (n : Nat) (h0 : 0 ≤ b) (h1 : b ≤ 140) (hn : n ≤ 6) (d : Nat) : ∀ i : Nat, i + d = n → Ev (fun k => spec_l3Power.l0 k b (n : Int) (b ^ i) (i : Int)) (b ^ n) := by
  induction d with
  | zero =>
    intro i hi
    refine Ev.step (fun _ => rfl) ?_
    refine ev_neg (by omega) (ev_eq (Ev.now _) ?_)
    rw [show i = n by omega]
  | succ d ih =>
    intro i hi
    refine Ev.step (fun _ => rfl) ?_
    refine ev_pos (by omega) ?_
    rw [w64n i (by omega), pow_step b h0 h1 i (by omega)]
    exact ih (i + 1) (by omega)
theorem specPower_ev (b n : Int) (h0 : 0 ≤ b) (h1 : b ≤ 140) (hn0 : 0 ≤ n) (hn : n ≤ 6) : Ev (fun k => spec_l3Power.f k b n) (b ^ n.toNat) := by
  obtain ⟨m, rfl⟩ := Int.eq_ofNat_of_zero_le hn0
  unfold spec_l3Power.f
  have := specPower_loop b m h0 h1 (by omega) m 0 (by omega)
  simpa using this

theorem implBackAll_ev (l : List Int) (n : Int) (hl : l.length ≤ 1000000000) : Ev (fun k => impl_BackAll.f k l n) (if urnB l = true ∧ 0 ≤ n ∧ n ≤ 6 then tot l ^ n.toNat else -1) := by
  have no : Ev (fun k => impl_BackAll.j0 k l n true) (-1) := Ev.step (fun _ => rfl) (Ev.now _)
  unfold impl_BackAll.f
  refine Ev.bind (implUrnOk_ev l hl) ?_
  by_cases h : urnB l = true
  · refine ev_pos h ?_
    obtain ⟨h1, h2, h3⟩ := urnB_bounds h
    have ht := tot_bound l 40 (by omega) h1
    by_cases h4 : n < 0
    · refine ev_pos h4 ?_
      rw [if_neg (by omega)]; exact no
    refine ev_neg h4 ?_
    by_cases h5 : n > 6
    · rw [decide_eq_true h5, if_neg (by omega)]; exact no
    · rw [decide_eq_false h5, if_pos ⟨h, by omega, by omega⟩]
      refine Ev.step (fun _ => rfl) ?_
      exact Ev.bind (implSum_ev l (by omega) (fun x hx => by have := h1 x hx; omega)) (Ev.bind (implPower_ev _ n (by omega) (by omega) (by omega) (by omega)) (Ev.now _))
  · refine ev_neg h ?_
    rw [if_neg (fun hh => h hh.1)]; exact no

theorem specBackAll_ev (l : List Int) (n : Int) (hl : l.length ≤ 1000000000) : Ev (fun k => spec_BackAll.f k l n) (if urnB l = true ∧ 0 ≤ n ∧ n ≤ 6 then tot l ^ n.toNat else -1) := by
  have no : Ev (fun k => spec_BackAll.j0 k l n true) (-1) := Ev.step (fun _ => rfl) (Ev.now _)
  unfold spec_BackAll.f
  refine Ev.bind (specUrnOk_ev l hl) ?_
  by_cases h : urnB l = true
  · refine ev_pos h ?_
    obtain ⟨h1, h2, h3⟩ := urnB_bounds h
    have ht := tot_bound l 40 (by omega) h1
    rw [l1In_f]
    by_cases h4 : 0 ≤ n ∧ n ≤ 6
    · rw [if_pos ⟨h, h4⟩, show inB n 0 6 = true from by simp [inB, h4]]
      refine Ev.bind (Ev.now _) (Ev.step (fun _ => rfl) ?_)
      exact Ev.bind (l1Total_ev l (by omega) (fun x hx => by have := h1 x hx; omega)) (Ev.bind (specPower_ev _ n (by omega) (by omega) (by omega) (by omega)) (Ev.now _))
    · rw [if_neg (fun hh => h4 hh.2), show inB n 0 6 = false from by simp [inB]; omega]
      exact no
  · refine ev_neg h ?_
    rw [if_neg (fun hh => h hh.1)]; exact no

theorem FnExactBackAll : laws_FnExactBackAll.Pure := by
  intro l n hl0 _ _ _
  refine Ev.rounds (g := fun k => laws_FnExactBackAll.f k l n) ?_
  unfold laws_FnExactBackAll.f
  by_cases h : (l.length : Int) > 1048576
  · exact ev_pos h (Ev.now _)
  refine ev_neg h ?_
  have hl : l.length ≤ 1000000000 := by omega
  refine Ev.bind (toIntS_ev l hl) (Ev.bind (specBackAll_ev l n hl) (Ev.bind (toIntS_ev l hl) (Ev.bind (implBackAll_ev l n hl) ?_)))
  exact ev_pos rfl (Ev.bind (toIntS_ev l hl) (Ev.bind (eqIntS_ev l hl) (Ev.now _)))

end Go.Proofs.Ytieiflieppmboaa.Pure
