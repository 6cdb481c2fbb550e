/- The law FnExactChanceOf: for every input the printed function of the law answers true. No condition. -/
import Derived.Test.YtieiflieppmboaaPFnExactChanceOfx3
import Derived.Test.YtieiflieppmboaaPlain
set_option linter.unusedVariables false
set_option linter.unusedSimpArgs false
namespace Go.Proofs.Ytieiflieppmboaa.Pure
open Go.RowKit Go.Proofs.Ytieiflieppmboaa.PFnExactChanceOf Go.Proofs.YtieiflieppmboaaW.PrintWords Go.Proofs.YtieiflieppmboaaW.PrintLast Go.Proofs.YtieiflieppmboaaW.PrintMore Go.Proofs.Ytieiflieppmboaa.Plain

theorem l1In_f (x a b : Int) : spec_l1In.f x a b = some (inB x a b) := by
  unfold spec_l1In.f inB
  by_cases h : x ≥ a
  · rw [if_pos h]; congr 1; simp [h]
  · rw [if_neg h]; congr 1; simp; omega

theorem coloursOk_f (x : Int) : impl_coloursOk.f x = some (colB x) := by
  unfold impl_coloursOk.f colB
  by_cases h : x ≥ 1
  · rw [if_pos h]; congr 1; simp [h]
  · rw [if_neg h]; congr 1; simp; omega

theorem toIntS_set (l : List Int) (i : Nat) (h : i < l.length) : (l.take i ++ List.replicate (l.length - i) 0).set i (rd l (i : Int)) = l.take (i + 1) ++ List.replicate (l.length - (i + 1)) 0 := by
  rw [take_rd l i h, List.set_append_right _ _ (by rw [List.length_take]; omega)]
  have e : l.length - i = (l.length - (i + 1)) + 1 := by omega
  rw [e, List.replicate_succ, List.length_take, Nat.min_eq_left (by omega), Nat.sub_self, List.set_cons_zero, List.append_assoc]
  rfl
theorem toIntS_loop (l : List Int) (hl : l.length ≤ 1000000000) (d : Nat) : ∀ i : Nat, i + d = l.length → Ev (fun k => laws_toIntS.l0 k l (l.take i ++ List.replicate (l.length - i) 0) (i : Int)) l := by
  induction d with
  | zero =>
    intro i hi
    refine Ev.step (fun _ => rfl) ?_
    refine ev_neg (by omega) ?_
    have : i = l.length := by omega
    subst this
    refine ev_eq (Ev.now _) ?_
    simp
  | succ d ih =>
    intro i hi
    refine Ev.step (fun _ => rfl) ?_
    refine ev_pos (by omega) (ev_pos (by omega) (ev_pos (by simp; omega) ?_))
    rw [show ((i : Int)).toNat = i from by simp, toIntS_set l i (by omega), w64n i (by omega)]
    exact ih (i + 1) (by omega)
theorem toIntS_ev (l : List Int) (hl : l.length ≤ 1000000000) : Ev (fun k => laws_toIntS.f k l) l := by
  unfold laws_toIntS.f
  refine ev_pos (by omega) (ev_pos (by simp; omega) ?_)
  have := toIntS_loop l hl l.length 0 (by omega)
  simpa using this

theorem eqIntS_loop (l : List Int) (hl : l.length ≤ 1000000000) (d : Nat) : ∀ i : Nat, i + d = l.length → Ev (fun k => laws_eqIntS.l0 k l l (i : Int)) true := by
  induction d with
  | zero =>
    intro i hi
    refine Ev.step (fun _ => rfl) ?_
    exact ev_neg (by omega) (Ev.now _)
  | succ d ih =>
    intro i hi
    refine Ev.step (fun _ => rfl) ?_
    refine ev_pos (by omega) (ev_pos (by omega) (ev_pos (by omega) (ev_pos rfl ?_)))
    rw [w64n i (by omega)]
    exact ih (i + 1) (by omega)
theorem eqIntS_ev (l : List Int) (hl : l.length ≤ 1000000000) : Ev (fun k => laws_eqIntS.f k l l) true := by
  unfold laws_eqIntS.f
  exact ev_pos rfl (eqIntS_loop l hl l.length 0 (by omega))

theorem implUrnOk_loop (l : List Int) (hl : l.length ≤ 1000000000) (d : Nat) : ∀ i : Nat, i + d = l.length → Ev (fun k => impl_UrnOk.l0 k l l (l.length : Int) (i : Int)) ((l.drop i).all urnE && colB l.length) := by
  induction d with
  | zero =>
    intro i hi
    refine Ev.step (fun _ => rfl) ?_
    refine ev_neg (by omega) ?_
    rw [coloursOk_f, List.drop_eq_nil_of_le (by omega)]
    exact Ev.now _
  | succ d ih =>
    intro i hi
    refine Ev.step (fun _ => rfl) ?_
    refine ev_pos (by omega) (ev_pos (by omega) (ev_pos (by omega) ?_))
    rw [drop_rd l i (by omega), List.all_cons]
    by_cases h1 : rd l (i : Int) < 0
    · refine ev_pos h1 (ev_eq (Ev.now _) ?_)
      rw [show urnE (rd l (i : Int)) = false from by simp [urnE]; omega]; rfl
    · refine ev_neg h1 ?_
      by_cases h2 : rd l (i : Int) > 40
      · refine ev_pos h2 (ev_eq (Ev.now _) ?_)
        rw [show urnE (rd l (i : Int)) = false from by simp [urnE]; omega]; rfl
      · refine ev_neg h2 ?_
        rw [w64n i (by omega), show urnE (rd l (i : Int)) = true from by simp [urnE]; omega, Bool.true_and]
        exact ih (i + 1) (by omega)
theorem implUrnOk_ev (l : List Int) (hl : l.length ≤ 1000000000) : Ev (fun k => impl_UrnOk.f k l) (urnB l) := by
  unfold impl_UrnOk.f
  exact implUrnOk_loop l hl l.length 0 (by omega)

theorem specUrnOk_loop (l : List Int) (hl : l.length ≤ 1000000000) (d : Nat) : ∀ i : Nat, i + d = l.length → Ev (fun k => spec_UrnOk.l0 k l (i : Int)) ((l.drop i).all urnE && colB l.length) := by
  induction d with
  | zero =>
    intro i hi
    refine Ev.step (fun _ => rfl) ?_
    refine ev_neg (by omega) ?_
    rw [l1In_f, List.drop_eq_nil_of_le (by omega)]
    exact Ev.now _
  | succ d ih =>
    intro i hi
    refine Ev.step (fun _ => rfl) ?_
    refine ev_pos (by omega) (ev_pos (by omega) ?_)
    rw [drop_rd l i (by omega), List.all_cons, l1In_f, show inB (rd l (i : Int)) 0 40 = urnE (rd l (i : Int)) from rfl]
    cases h : urnE (rd l (i : Int)) with
    | false => exact Ev.now _
    | true =>
      simp only [Option.bind_some, if_true, Bool.true_and]
      rw [w64n i (by omega)]
      exact ih (i + 1) (by omega)
theorem specUrnOk_ev (l : List Int) (hl : l.length ≤ 1000000000) : Ev (fun k => spec_UrnOk.f k l) (urnB l) := by
  unfold spec_UrnOk.f
  exact specUrnOk_loop l hl l.length 0 (by omega)

theorem l1Total_loop (l : List Int) (hl : l.length ≤ 1000) (B : Int) (hB : 0 ≤ B) (hB2 : B ≤ 1000000000) (hb : ∀ x ∈ l, 0 ≤ x ∧ x ≤ B) (d : Nat) : ∀ i : Nat, i + d = l.length → Ev (fun k => spec_l1Total.l0 k l (tot (l.take i)) (i : Int)) (tot l) := by
  induction d with
  | zero =>
    intro i hi
    refine Ev.step (fun _ => rfl) ?_
    refine ev_neg (by omega) (ev_eq (Ev.now _) ?_)
    rw [List.take_of_length_le (by omega)]
  | succ d ih =>
    intro i hi
    refine Ev.step (fun _ => rfl) ?_
    refine ev_pos (by omega) (ev_pos (by omega) ?_)
    have h1 := tot_bound (l.take i) B hB (fun x hx => hb x (List.mem_of_mem_take hx))
    have h2 := hb _ (rd_mem l i (by omega))
    have h3 : ((l.take i).length : Int) * B ≤ 1000 * 1000000000 := (mulb (by omega) (by rw [List.length_take]; omega) hB hB2).2
    have h4 : tot (l.take i) + rd l (i : Int) = tot (l.take (i + 1)) := by rw [take_rd l i (by omega), tot_append]; simp [tot]
    rw [w64n i (by omega), w64 (by omega) (by omega), h4]
    exact ih (i + 1) (by omega)
theorem l1Total_ev (l : List Int) (hl : l.length ≤ 1000) (hb : ∀ x ∈ l, 0 ≤ x ∧ x ≤ 1000000000) : Ev (fun k => spec_l1Total.f k l) (tot l) := by
  unfold spec_l1Total.f
  exact l1Total_loop l hl 1000000000 (by omega) (by omega) hb l.length 0 (by omega)

theorem implSum_loop (l : List Int) (hl : l.length ≤ 1000) (B : Int) (hB : 0 ≤ B) (hB2 : B ≤ 1000000000) (hb : ∀ x ∈ l, 0 ≤ x ∧ x ≤ B) (d : Nat) : ∀ i : Nat, i + d = l.length → Ev (fun k => impl_sum.l0 k (tot (l.take i)) l (l.length : Int) (i : Int)) (tot l) := by
  induction d with
  | zero =>
    intro i hi
    refine Ev.step (fun _ => rfl) ?_
    refine ev_neg (by omega) (ev_eq (Ev.now _) ?_)
    rw [List.take_of_length_le (by omega)]
  | succ d ih =>
    intro i hi
    refine Ev.step (fun _ => rfl) ?_
    refine ev_pos (by omega) (ev_pos (by omega) (ev_pos (by omega) ?_))
    have h1 := tot_bound (l.take i) B hB (fun x hx => hb x (List.mem_of_mem_take hx))
    have h2 := hb _ (rd_mem l i (by omega))
    have h3 : ((l.take i).length : Int) * B ≤ 1000 * 1000000000 := (mulb (by omega) (by rw [List.length_take]; omega) hB hB2).2
    have h4 : tot (l.take i) + rd l (i : Int) = tot (l.take (i + 1)) := by rw [take_rd l i (by omega), tot_append]; simp [tot]
    rw [w64n i (by omega), w64 (by omega) (by omega), h4]
    exact ih (i + 1) (by omega)
theorem implSum_ev (l : List Int) (hl : l.length ≤ 1000) (hb : ∀ x ∈ l, 0 ≤ x ∧ x ≤ 1000000000) : Ev (fun k => impl_sum.f k l) (tot l) := by
  unfold impl_sum.f
  exact implSum_loop l hl 1000000000 (by omega) (by omega) hb l.length 0 (by omega)

theorem l1Common_ev (b : Nat) : ∀ a : Nat, Ev (fun k => spec_l1Common.l0 k (a : Int) (b : Int)) (mx (Nat.gcd a b : Int) 1) := by
  induction b using Nat.strongRecOn with
  | ind b ih =>
    intro a
    refine Ev.step (fun _ => rfl) ?_
    by_cases hb : b = 0
    · subst hb
      exact ev_neg (by omega) (ev_eq (Ev.now _) (by simp))
    · refine ev_pos (by omega) (ev_neg (by omega) ?_)
      have h1 : Int.tmod (a : Int) (b : Int) = ((a % b : Nat) : Int) := by rw [Int.tmod_eq_emod_of_nonneg (by omega)]; simp
      rw [h1]
      have := ih (a % b) (Nat.mod_lt _ (by omega)) b
      rw [show Nat.gcd b (a % b) = Nat.gcd a b from by rw [Nat.gcd_comm a b, Nat.gcd_rec b a, Nat.gcd_comm (a % b) b]] at this
      exact this

theorem implFraction_loop (x y : Nat) (hx : x ≤ 1000000) (hy : y ≤ 1000000) (b : Nat) : ∀ a : Nat, 0 < a + b → Ev (fun k => impl_fraction.l0 k (x : Int) (y : Int) (a : Int) (b : Int)) ((x : Int) / (Nat.gcd a b : Int), (y : Int) / (Nat.gcd a b : Int), true) := by
  induction b using Nat.strongRecOn with
  | ind b ih =>
    intro a hab
    refine Ev.step (fun _ => rfl) ?_
    by_cases hb : b = 0
    · subst hb
      refine ev_pos (by omega) (ev_neg (by omega) (ev_eq (Ev.now _) ?_))
      have h1 := tdiv_range (x : Int) (a : Int) (by omega) (by omega)
      have h2 := tdiv_range (y : Int) (a : Int) (by omega) (by omega)
      rw [w64 (by omega) (by omega), w64 (by omega) (by omega), Int.tdiv_eq_ediv_of_nonneg (by omega), Int.tdiv_eq_ediv_of_nonneg (by omega), Nat.gcd_zero_right]
    · refine ev_neg (by omega) ?_
      have h1 : Int.tmod (a : Int) (b : Int) = ((a % b : Nat) : Int) := by rw [Int.tmod_eq_emod_of_nonneg (by omega)]; simp
      rw [h1]
      have := ih (a % b) (Nat.mod_lt _ (by omega)) b (by omega)
      rw [show Nat.gcd b (a % b) = Nat.gcd a b from by rw [Nat.gcd_comm a b, Nat.gcd_rec b a, Nat.gcd_comm (a % b) b]] at this
      exact this

theorem chance_no (l : List Int) (c : Int) : Ev (fun k => spec_ChanceOf.j0 k l c true) (0, 0, false) := Ev.step (fun _ => rfl) (Ev.now _)
theorem specChanceOf_ev (l : List Int) (c : Int) (hl : l.length ≤ 1000000000) : Ev (fun k => spec_ChanceOf.f k l c) (chanceP l c) := by
  unfold spec_ChanceOf.f chanceP
  refine Ev.bind (specUrnOk_ev l hl) ?_
  by_cases h : urnB l = true
  · obtain ⟨h1, h2, h3⟩ := urnB_bounds h
    have ht := tot_bound l 40 (by omega) h1
    refine ev_pos h ?_
    rw [l1In_f, w64 (by omega) (by omega)]
    by_cases h4 : 0 ≤ c ∧ c < l.length
    · rw [show inB c 0 ((l.length : Int) - 1) = true from by simp [inB]; omega]
      have hev := l1Total_ev l (by omega) (fun x hx => by have := h1 x hx; omega)
      refine Ev.bind (Ev.now _) (ev_pos rfl (Ev.bind hev ?_))
      by_cases h5 : tot l = 0
      · rw [h5, if_neg (by omega)]; exact chance_no l c
      · rw [if_pos ⟨h, h4.1, h4.2, by omega⟩, show (tot l == 0) = false from by simp [h5]]
        refine Ev.step (fun _ => rfl) ?_
        refine ev_pos h4.1 (ev_pos h4.2 (Ev.bind hev ?_))
        have hr := h1 _ (rd_range l c h4.1 h4.2)
        obtain ⟨a, ha⟩ := Int.eq_ofNat_of_zero_le hr.1
        obtain ⟨b, hb⟩ := Int.eq_ofNat_of_zero_le ht.1
        have hc := l1Common_ev b a
        have hg : 0 < Nat.gcd a b := Nat.gcd_pos_of_pos_right _ (by omega)
        rw [ha, hb]
        refine Ev.bind (g := fun k => spec_l1Common.f k (a : Int) (b : Int)) hc ?_
        rw [mx_l _ _ (by omega)]
        refine ev_neg (by omega) ?_
        rw [hb] at hev
        refine Ev.bind hev (ev_eq (Ev.now _) ?_)
        have t1 := tdiv_range (a : Int) (Nat.gcd a b : Int) (by omega) (by omega)
        have t2 := tdiv_range (b : Int) (Nat.gcd a b : Int) (by omega) (by omega)
        rw [w64 (by omega) (by omega), w64 (by omega) (by omega), Int.tdiv_eq_ediv_of_nonneg (by omega), Int.tdiv_eq_ediv_of_nonneg (by omega)]
        simp
    · rw [show inB c 0 ((l.length : Int) - 1) = false from by simp [inB]; omega, if_neg (by omega)]
      exact chance_no l c
  · refine ev_neg h ?_
    rw [if_neg (fun hh => h hh.1)]; exact chance_no l c

theorem chance_noI (l : List Int) (c : Int) : Ev (fun k => impl_ChanceOf.j0 k l c true) (0, 0, false) := Ev.step (fun _ => rfl) (Ev.now _)
theorem implChanceOf_ev (l : List Int) (c : Int) (hl : l.length ≤ 1000000000) : Ev (fun k => impl_ChanceOf.f k l c) (chanceP l c) := by
  unfold impl_ChanceOf.f chanceP
  refine Ev.bind (implUrnOk_ev l hl) ?_
  by_cases h : urnB l = true
  · obtain ⟨h1, h2, h3⟩ := urnB_bounds h
    have ht := tot_bound l 40 (by omega) h1
    refine ev_pos h ?_
    by_cases h6 : c < 0
    · refine ev_pos h6 ?_
      rw [if_neg (by omega)]; exact chance_noI l c
    refine ev_neg h6 ?_
    by_cases h7 : c ≥ (l.length : Int)
    · refine ev_pos h7 ?_
      rw [if_neg (by omega)]; exact chance_noI l c
    refine ev_neg h7 ?_
    have h4 : 0 ≤ c ∧ c < l.length := by omega
    have hev := implSum_ev l (by omega) (fun x hx => by have := h1 x hx; omega)
    refine Ev.bind hev ?_
    by_cases h5 : tot l = 0
    · rw [h5, if_neg (by omega)]; exact chance_noI l c
    · rw [if_pos ⟨h, h4.1, h4.2, by omega⟩, show (tot l == 0) = false from by simp [h5]]
      refine Ev.step (fun _ => rfl) ?_
      refine ev_pos h4.1 (ev_pos h4.2 (Ev.bind hev ?_))
      have hr := h1 _ (rd_range l c h4.1 h4.2)
      obtain ⟨a, ha⟩ := Int.eq_ofNat_of_zero_le hr.1
      obtain ⟨b, hb⟩ := Int.eq_ofNat_of_zero_le ht.1
      rw [ha, hb]
      refine Ev.bind (g := fun k => impl_fraction.f k (a : Int) (b : Int)) (implFraction_loop a b (by omega) (by omega) b a (by omega)) (ev_eq (Ev.now _) ?_)
      simp
  · refine ev_neg h ?_
    rw [if_neg (fun hh => h hh.1)]; exact chance_noI l c

theorem FnExactChanceOf : laws_FnExactChanceOf.Pure := by
  intro l c hl0 _ _ _
  refine Ev.rounds (g := fun k => laws_FnExactChanceOf.f k l c) ?_
  unfold laws_FnExactChanceOf.f
  by_cases h : (l.length : Int) > 1048576
  · exact ev_pos h (Ev.now _)
  refine ev_neg h ?_
  have hl : l.length ≤ 1000000000 := by omega
  refine Ev.bind (toIntS_ev l hl) (Ev.bind (specChanceOf_ev l c hl) (Ev.bind (toIntS_ev l hl) (Ev.bind (implChanceOf_ev l c hl) ?_)))
  refine ev_pos rfl (ev_pos rfl ?_)
  refine Ev.step (fun _ => rfl) ?_
  exact ev_neg (by simp) (Ev.bind (toIntS_ev l hl) (Ev.bind (eqIntS_ev l hl) (Ev.now _)))

end Go.Proofs.Ytieiflieppmboaa.Pure
