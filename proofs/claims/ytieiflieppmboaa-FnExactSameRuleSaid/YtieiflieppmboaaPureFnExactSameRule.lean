/- The law FnExactSameRule: for every input the printed function of the law answers true. No condition. -/
import Derived.Test.YtieiflieppmboaaPFnExactSameRulex3
import Derived.Test.YtieiflieppmboaaPlain
set_option linter.unusedVariables false
set_option linter.unusedSimpArgs false
namespace Go.Proofs.Ytieiflieppmboaa.Pure
open Go.RowKit Go.Proofs.Ytieiflieppmboaa.PFnExactSameRule Go.Proofs.YtieiflieppmboaaW.PrintWords Go.Proofs.YtieiflieppmboaaW.PrintLast Go.Proofs.YtieiflieppmboaaW.PrintMore Go.Proofs.Ytieiflieppmboaa.Plain

theorem l1In_f (x a b : Int) : spec_l1In.f x a b = some (inB x a b) := by
  unfold spec_l1In.f inB
  by_cases h : x ≥ a
  · rw [if_pos h]; congr 1; simp [h]
  · rw [if_neg h]; congr 1; simp; omega

theorem coloursOk_f (x : Int) : impl_coloursOk.f x = some (colB x) := by
  unfold impl_coloursOk.f colB
  by_cases h : x ≥ 1
  · rw [if_pos h]; congr 1; simp [h]
  · rw [if_neg h]; congr 1; simp; omega

theorem eqIntS_loop (l : List Int) (hl : l.length ≤ 1000000000) (d : Nat) : ∀ i : Nat, i + d = l.length → Ev (fun k => laws_eqIntS.l0 k l l (i : Int)) true := by
  induction d with
  | zero =>
    intro i hi
    refine Ev.step (fun _ => rfl) ?_
    exact ev_neg (by omega) (Ev.now _)
  | succ d ih =>
    intro i hi
    refine Ev.step (fun _ => rfl) ?_
    refine ev_pos (by omega) (ev_pos (by omega) (ev_pos (by omega) (ev_pos rfl ?_)))
    rw [w64n i (by omega)]
    exact ih (i + 1) (by omega)
theorem eqIntS_ev (l : List Int) (hl : l.length ≤ 1000000000) : Ev (fun k => laws_eqIntS.f k l l) true := by
  unfold laws_eqIntS.f
  exact ev_pos rfl (eqIntS_loop l hl l.length 0 (by omega))

theorem markIntS_set (l : List Int) (k : Int) (i : Nat) (h : i < l.length) : (iota k i ++ l.drop i).set i (k + i) = iota k (i + 1) ++ l.drop (i + 1) := by
  rw [List.set_append_right _ _ (by rw [iota_length]; omega), iota_length, Nat.sub_self, drop_rd l i h, List.set_cons_zero, iota_snoc, List.append_assoc]
  rfl
theorem markIntS_loop (l : List Int) (q : Int) (hq0 : 0 ≤ q) (hq : q ≤ 1000000000000000000) (hl : l.length ≤ 1000000000) (d : Nat) : ∀ i : Nat, i + d = l.length → Ev (fun k => laws_markIntS.l0 k (iota q i ++ l.drop i) (q + i) (i : Int)) (q + l.length, iota q l.length) := by
  induction d with
  | zero =>
    intro i hi
    refine Ev.step (fun _ => rfl) ?_
    refine ev_neg (by rw [List.length_append, iota_length, List.length_drop]; omega) (ev_eq (Ev.now _) ?_)
    rw [List.drop_eq_nil_of_le (by omega), List.append_nil, show i = l.length by omega]
  | succ d ih =>
    intro i hi
    refine Ev.step (fun _ => rfl) ?_
    refine ev_pos (by rw [List.length_append, iota_length, List.length_drop]; omega) (ev_pos (by omega) ?_)
    rw [show ((i : Int)).toNat = i from by simp, markIntS_set l q i (by omega), w64n i (by omega), w64 (by omega) (by omega), show q + (i : Int) + 1 = q + ((i + 1 : Nat) : Int) from by omega]
    exact ih (i + 1) (by omega)
theorem markIntS_ev (l : List Int) (q : Int) (hq0 : 0 ≤ q) (hq : q ≤ 1000000000000000000) (hl : l.length ≤ 1000000000) : Ev (fun k => laws_markIntS.f k l q) (q + l.length, iota q l.length) := by
  unfold laws_markIntS.f
  have := markIntS_loop l q hq0 hq hl l.length 0 (by omega)
  simpa [iota] using this

theorem heldIntS_loop (n : Nat) (q : Int) (hq0 : 0 ≤ q) (hq : q ≤ 1000000000000000000) (hl : n ≤ 1000000000) (d : Nat) : ∀ i : Nat, i + d = n → Ev (fun k => laws_heldIntS.l0 k (iota q n) (q + i) (i : Int)) (q + n) := by
  induction d with
  | zero =>
    intro i hi
    refine Ev.step (fun _ => rfl) ?_
    refine ev_neg (by rw [iota_length]; omega) (ev_eq (Ev.now _) ?_)
    rw [show i = n by omega]
  | succ d ih =>
    intro i hi
    refine Ev.step (fun _ => rfl) ?_
    refine ev_pos (by rw [iota_length]; omega) (ev_pos (by omega) (ev_pos (iota_rd n q i (by omega)) ?_))
    rw [w64n i (by omega), w64 (by omega) (by omega), show q + (i : Int) + 1 = q + ((i + 1 : Nat) : Int) from by omega]
    exact ih (i + 1) (by omega)
theorem heldIntS_ev (n : Nat) (q : Int) (hq0 : 0 ≤ q) (hq : q ≤ 1000000000000000000) (hl : n ≤ 1000000000) : Ev (fun k => laws_heldIntS.f k (iota q n) q) (q + n) := by
  unfold laws_heldIntS.f
  have := heldIntS_loop n q hq0 hq hl n 0 (by omega)
  simpa using this

theorem rdL_eq (xs : List (List Int)) (i : Int) : rd_L1 xs i = rowR xs i := rfl

theorem implSameRule_loop (c : Nat) (s : Int) (hc : c ≤ 3) (d : Nat) : ∀ i : Nat, i + d = c → Ev (fun k => impl_SameRule.l0 k (c : Int) s (sameL c s i) (c : Int) (i : Int)) (sameL c s c) := by
  induction d with
  | zero =>
    intro i hi
    refine Ev.step (fun _ => rfl) ?_
    refine ev_neg (by omega) (ev_eq (Ev.now _) ?_)
    rw [show i = c by omega]
  | succ d ih =>
    intro i hi
    refine Ev.step (fun _ => rfl) ?_
    refine ev_pos (by omega) (ev_pos (by omega) (ev_pos (by omega) (Ev.bind (Ev.now _) (ev_pos (by omega) (ev_pos (by simp; omega) (ev_pos (by rw [sameL_length]; omega) ?_))))))
    rw [w64n i (by omega)]
    exact ih (i + 1) (by omega)
theorem implSameRule_ev (c s : Int) : Ev (fun k => impl_SameRule.f k c s) (sameP c s) := by
  have no : Ev (fun k => impl_SameRule.j0 k c s true) [] := Ev.step (fun _ => rfl) (Ev.now _)
  unfold impl_SameRule.f sameP
  rw [coloursOk_f]
  refine Ev.bind (Ev.now _) ?_
  by_cases h : 1 ≤ c ∧ c ≤ 3
  · refine ev_pos (by simp [colB, h]) ?_
    by_cases h1 : s < -1
    · refine ev_pos h1 ?_
      rw [if_neg (by omega)]; exact no
    refine ev_neg h1 ?_
    by_cases h2 : s > 3
    · rw [decide_eq_true h2, if_neg (by omega)]; exact no
    · rw [decide_eq_false h2, if_pos ⟨h, by omega, by omega⟩]
      obtain ⟨m, rfl⟩ := Int.eq_ofNat_of_zero_le (show 0 ≤ c by omega)
      exact Ev.step (fun _ => rfl) (implSameRule_loop m s (by omega) m 0 (by omega))
  · refine ev_neg (by simp [colB]; omega) ?_
    rw [if_neg (fun hh => h hh.1)]; exact no

theorem specSameRule_loop (c : Nat) (s : Int) (hc1 : 1 ≤ c) (hc : c ≤ 3) (hs : -1 ≤ s ∧ s ≤ 3) (d : Nat) : ∀ i : Nat, i + d = c → Ev (fun k => spec_SameRule.l0 k (c : Int) s (sameL c s i) (i : Int)) (sameL c s c) := by
  induction d with
  | zero =>
    intro i hi
    refine Ev.step (fun _ => rfl) ?_
    refine ev_neg (by omega) (ev_eq (Ev.now _) ?_)
    rw [show i = c by omega]
  | succ d ih =>
    intro i hi
    refine Ev.step (fun _ => by rw [spec_SameRule.l0]) ?_
    rw [l1In_f, l1In_f]
    refine ev_pos (by omega) (Ev.bind (Ev.now _) (ev_pos (by simp [inB]; omega) (Ev.bind (Ev.now _) (ev_pos (by simp [inB]; omega) (ev_pos (by omega) (ev_pos (by omega) (Ev.bind (Ev.now _) (ev_pos (by omega) (ev_pos (by simp; omega) (ev_pos (by rw [sameL_length]; omega) ?_))))))))))
    rw [w64n i (by omega)]
    exact ih (i + 1) (by omega)
theorem specSameRule_ev (c s : Int) : Ev (fun k => spec_SameRule.f k c s) (sameP c s) := by
  unfold spec_SameRule.f sameP
  by_cases h : 1 ≤ c ∧ c ≤ 3
  · by_cases h1 : -1 ≤ s ∧ s ≤ 3
    · rw [if_pos ⟨h, h1⟩]
      obtain ⟨m, rfl⟩ := Int.eq_ofNat_of_zero_le (show 0 ≤ c by omega)
      exact specSameRule_loop m s (by omega) (by omega) h1 m 0 (by omega)
    · rw [if_neg (fun hh => h1 hh.2)]
      refine Ev.step (fun _ => by rw [spec_SameRule.l0]) ?_
      rw [l1In_f, l1In_f]
      exact ev_pos (by omega) (Ev.bind (Ev.now _) (ev_pos (by simp [inB]; omega) (Ev.bind (Ev.now _) (ev_neg (by simp [inB]; omega) (Ev.now _)))))
  · rw [if_neg (fun hh => h hh.1)]
    refine Ev.step (fun _ => by rw [spec_SameRule.l0]) ?_
    by_cases h2 : 0 < c
    · rw [l1In_f]
      exact ev_pos h2 (Ev.bind (Ev.now _) (ev_neg (by simp [inB]; omega) (Ev.now _)))
    · exact ev_neg (by omega) (Ev.now _)

theorem eqIntSS_loop (r : List (List Int)) (hl : r.length ≤ 100000000) (hr : ∀ x ∈ r, x.length ≤ 1000000000) (d : Nat) : ∀ i : Nat, i + d = r.length → Ev (fun k => laws_eqIntSS.l0 k r r (i : Int)) true := by
  induction d with
  | zero =>
    intro i hi
    refine Ev.step (fun _ => rfl) ?_
    exact ev_neg (by omega) (Ev.now _)
  | succ d ih =>
    intro i hi
    refine Ev.step (fun _ => rfl) ?_
    refine ev_pos (by omega) (ev_pos (by omega) (ev_pos (by omega) (Ev.bind (eqIntS_ev _ (hr _ (rowR_mem r i (by omega)))) (ev_pos rfl ?_))))
    rw [w64n i (by omega)]
    exact ih (i + 1) (by omega)
theorem eqIntSS_ev (r : List (List Int)) (hl : r.length ≤ 100000000) (hr : ∀ x ∈ r, x.length ≤ 1000000000) : Ev (fun k => laws_eqIntSS.f k r r) true := by
  unfold laws_eqIntSS.f
  exact ev_pos rfl (eqIntSS_loop r hl hr r.length 0 (by omega))

/-- The rows, numbered through from q on; how many numbers they have. -/
def lens : List (List Int) → Nat
  | [] => 0
  | x :: r => x.length + lens r
def markL (q : Int) : List (List Int) → List (List Int)
  | [] => []
  | x :: r => iota q x.length :: markL (q + x.length) r
theorem lens_append (a b : List (List Int)) : lens (a ++ b) = lens a + lens b := by
  induction a with
  | nil => simp [lens]
  | cons x a ih => simp only [List.cons_append, lens, ih]; omega
theorem lens_bound (r : List (List Int)) (B : Nat) (h : ∀ x ∈ r, x.length ≤ B) : lens r ≤ r.length * B := by
  induction r with
  | nil => simp [lens]
  | cons x r ih =>
    have h1 := ih (fun y hy => h y (List.mem_cons_of_mem _ hy)); have h2 := h x List.mem_cons_self
    simp only [lens, List.length_cons, Nat.succ_mul]; omega
theorem markL_length (r : List (List Int)) : ∀ q : Int, (markL q r).length = r.length := by
  induction r with
  | nil => intro q; rfl
  | cons x r ih => intro q; simp [markL, ih]
theorem markL_append (a b : List (List Int)) : ∀ q : Int, markL q (a ++ b) = markL q a ++ markL (q + lens a) b := by
  induction a with
  | nil => intro q; simp [markL, lens]
  | cons x a ih =>
    intro q
    simp only [List.cons_append, markL, lens, ih]
    rw [show q + ((x.length + lens a : Nat) : Int) = q + x.length + lens a from by omega]
theorem lens_take (r : List (List Int)) (i : Nat) (h : i < r.length) : lens (r.take (i + 1)) = lens (r.take i) + (rowR r (i : Int)).length := by
  rw [take_rowR r i h, lens_append]; simp [lens]
theorem lens_take_le (r : List (List Int)) (i : Nat) : lens (r.take i) ≤ lens r := by
  have := lens_append (r.take i) (r.drop i)
  rw [List.take_append_drop] at this
  omega
theorem markL_take (r : List (List Int)) (q : Int) (i : Nat) (h : i < r.length) : markL q (r.take (i + 1)) = markL q (r.take i) ++ [iota (q + lens (r.take i)) (rowR r (i : Int)).length] := by
  rw [take_rowR r i h, markL_append]; simp [markL]
theorem markL_row (r : List (List Int)) (q : Int) (i : Nat) (h : i < r.length) : rowR (markL q r) (i : Int) = iota (q + lens (r.take i)) (rowR r (i : Int)).length := by
  have e : markL q r = markL q (r.take i) ++ markL (q + lens (r.take i)) (r.drop i) := by rw [← markL_append, List.take_append_drop]
  rw [rowR_nat _ i (by rw [markL_length]; exact h)]
  simp only [e]
  have hl : (markL q (r.take i)).length = i := by rw [markL_length, List.length_take]; omega
  rw [List.getElem_append_right (by omega)]
  simp only [hl, drop_rowR r i h, markL, Nat.sub_self, List.getElem_cons_zero]

theorem markIntSS_loop (r : List (List Int)) (q : Int) (hq0 : 0 ≤ q) (hq : q ≤ 1000000000) (hl : r.length ≤ 1000000000) (hr : ∀ x ∈ r, x.length ≤ 1000000000) (hs : lens r ≤ 10000000000000) (d : Nat) : ∀ i : Nat, i + d = r.length → Ev (fun k => laws_markIntSS.l0 k (markL q (r.take i) ++ r.drop i) (q + lens (r.take i)) (i : Int)) (q + lens r, markL q r) := by
  induction d with
  | zero =>
    intro i hi
    refine Ev.step (fun _ => rfl) ?_
    refine ev_neg (by rw [List.length_append, markL_length, List.length_take, List.length_drop]; omega) (ev_eq (Ev.now _) ?_)
    rw [List.drop_eq_nil_of_le (by omega), List.append_nil, List.take_of_length_le (by omega)]
  | succ d ih =>
    intro i hi
    refine Ev.step (fun _ => rfl) ?_
    have hx := hr _ (rowR_mem r i (by omega))
    have hlt := lens_take_le r i
    have hml : (markL q (r.take i)).length = i := by rw [markL_length, List.length_take]; omega
    have e1 : rd_L1 (markL q (r.take i) ++ r.drop i) (i : Int) = rowR r (i : Int) := by
      rw [rdL_eq, rowR_nat _ i (by rw [List.length_append, hml, List.length_drop]; omega), List.getElem_append_right (by omega)]
      simp only [hml, drop_rowR r i (show i < r.length by omega), Nat.sub_self, List.getElem_cons_zero]
    have e2 : (markL q (r.take i) ++ r.drop i).set (i : Int).toNat (iota (q + lens (r.take i)) (rowR r (i : Int)).length) = markL q (r.take (i + 1)) ++ r.drop (i + 1) := by
      rw [Int.toNat_natCast, List.set_append_right _ _ (by omega), hml, Nat.sub_self, drop_rowR r i (by omega), List.set_cons_zero, markL_take r q i (by omega), List.append_assoc]
      rfl
    have hm : Ev (fun k => laws_markIntS.f k (rd_L1 (markL q (r.take i) ++ r.drop i) (i : Int)) (q + lens (r.take i))) (q + lens (r.take i) + (rowR r (i : Int)).length, iota (q + lens (r.take i)) (rowR r (i : Int)).length) := by
      rw [e1]
      exact markIntS_ev _ _ (by omega) (by omega) hx
    refine ev_pos (by rw [List.length_append, hml, List.length_drop]; omega) (ev_pos (by omega) (Ev.bind hm ?_))
    show Ev (fun k => laws_markIntSS.l0 k ((markL q (r.take i) ++ r.drop i).set (i : Int).toNat (iota (q + lens (r.take i)) (rowR r (i : Int)).length)) (q + lens (r.take i) + (rowR r (i : Int)).length) (wrap64 ((i : Int) + 1))) _
    rw [e2, w64n i (by omega), show q + (lens (r.take i) : Int) + ((rowR r (i : Int)).length : Int) = q + ((lens (r.take (i + 1)) : Nat) : Int) from by rw [lens_take r i (by omega)]; omega]
    exact ih (i + 1) (by omega)
theorem markIntSS_ev (r : List (List Int)) (q : Int) (hq0 : 0 ≤ q) (hq : q ≤ 1000000000) (hl : r.length ≤ 1000000000) (hr : ∀ x ∈ r, x.length ≤ 1000000000) (hs : lens r ≤ 10000000000000) : Ev (fun k => laws_markIntSS.f k r q) (q + lens r, markL q r) := by
  unfold laws_markIntSS.f
  have := markIntSS_loop r q hq0 hq hl hr hs r.length 0 (by omega)
  simpa [markL, lens] using this

theorem heldIntSS_loop (r : List (List Int)) (q : Int) (hq0 : 0 ≤ q) (hq : q ≤ 1000000000) (hl : r.length ≤ 1000000000) (hr : ∀ x ∈ r, x.length ≤ 1000000000) (hs : lens r ≤ 10000000000000) (d : Nat) : ∀ i : Nat, i + d = r.length → Ev (fun k => laws_heldIntSS.l0 k (markL q r) (q + lens (r.take i)) (i : Int)) (q + lens r) := by
  induction d with
  | zero =>
    intro i hi
    refine Ev.step (fun _ => rfl) ?_
    refine ev_neg (by rw [markL_length]; omega) (ev_eq (Ev.now _) ?_)
    rw [List.take_of_length_le (by omega)]
  | succ d ih =>
    intro i hi
    refine Ev.step (fun _ => rfl) ?_
    have hx := hr _ (rowR_mem r i (by omega))
    have hlt := lens_take_le r i
    have hh : Ev (fun k => laws_heldIntS.f k (rd_L1 (markL q r) (i : Int)) (q + lens (r.take i))) (q + lens (r.take i) + (rowR r (i : Int)).length) := by
      rw [rdL_eq, markL_row r q i (by omega)]
      exact heldIntS_ev _ _ (by omega) (by omega) hx
    refine ev_pos (by rw [markL_length]; omega) (ev_pos (by omega) (Ev.bind hh (ev_neg (by omega) ?_)))
    rw [w64n i (by omega), show q + (lens (r.take i) : Int) + ((rowR r (i : Int)).length : Int) = q + ((lens (r.take (i + 1)) : Nat) : Int) from by rw [lens_take r i (by omega)]; omega]
    exact ih (i + 1) (by omega)
theorem heldIntSS_ev (r : List (List Int)) (q : Int) (hq0 : 0 ≤ q) (hq : q ≤ 1000000000) (hl : r.length ≤ 1000000000) (hr : ∀ x ∈ r, x.length ≤ 1000000000) (hs : lens r ≤ 10000000000000) : Ev (fun k => laws_heldIntSS.f k (markL q r) q) (q + lens r) := by
  unfold laws_heldIntSS.f
  have := heldIntSS_loop r q hq0 hq hl hr hs r.length 0 (by omega)
  simpa [lens] using this

theorem FnExactSameRule (c s : Int) : ∃ k, laws_FnExactSameRule.ok k c s := by
  have hl : (sameP c s).length ≤ 3 ∧ ∀ x ∈ sameP c s, x.length ≤ 3 := by
    unfold sameP
    by_cases h : (1 ≤ c ∧ c ≤ 3) ∧ -1 ≤ s ∧ s ≤ 3
    · rw [if_pos h]
      exact ⟨by rw [sameL_length]; omega, fun x hx => by have := sameL_rows c.toNat s c.toNat x hx; omega⟩
    · rw [if_neg h]
      exact ⟨by simp, fun x hx => by simp at hx⟩
  have hr : ∀ x ∈ sameP c s, x.length ≤ 1000000000 := fun x hx => by have := hl.2 x hx; omega
  have hs : lens (sameP c s) ≤ 10000000000000 := by have := lens_bound _ 3 hl.2; omega
  obtain ⟨n1, e1⟩ := specSameRule_ev c s
  obtain ⟨n2, e2⟩ := implSameRule_ev c s
  obtain ⟨n3, e3⟩ := eqIntSS_ev (sameP c s) (by omega) hr
  obtain ⟨n4, e4⟩ := markIntSS_ev (sameP c s) 1 (by omega) (by omega) (by omega) hr hs
  obtain ⟨n5, e5⟩ := heldIntSS_ev (sameP c s) 1 (by omega) (by omega) (by omega) hr hs
  exact ⟨n1 + n2 + n3 + n4 + n5, sameP c s, markL 1 (sameP c s), 1 + lens (sameP c s), e1 _ (by omega), e2 _ (by omega), e3 _ (by omega), e4 _ (by omega), e5 _ (by omega), by omega⟩

end Go.Proofs.Ytieiflieppmboaa.Pure
