/- A slice of slices of whole numbers that came in, read as a list of lists. No program stands in this text. No condition. -/
import Derived.Test.YtlakokejoifamaaWWords
import Derived.Deep.Matrix
set_option linter.unusedVariables false
set_option linter.unusedSimpArgs false
namespace Go.Proofs.Ytlakokejoifamaa.PlainRows
open Go.RowKit Go.Deep Go.ChangeShapes Go.WideShapes Go.Proofs.YtlakokejoifamaaW.PrintWords

theorem rows_read {H : Type} {enc : TypeId × Value → H} {P : Program} {w : World} {base : Nat} {held : Bool} {t e q : TypeId} {fuel : Nat} {a : Option Addr} {len cap : Nat} {x : DataW H × List MemPlace}
    (ht : P.underlying t = some (.slice e)) (he : P.underlying e = some (.slice q)) (hq : P.underlying q = some (.int .i64)) (ce : P.cellsOf e = 1) (cq : P.cellsOf q = 1) (q' : Nat)
    (h : DataW.trod enc P w base (fun _ => true) held fuel t (Value.slice a len cap).cells.toList = some x) :
    ∃ l : List (List Int), len = l.length ∧ Kd.C (Kd.slice q' (Kd.int .i64)) w a l.length l ∧ l.length ≤ cap ∧ l.length ≤ maxLen ∧ ∀ y ∈ l, y.length ≤ maxLen := by
  rcases open_int_rows ht he hq ce cq h with ⟨hcs, _⟩ | ⟨a', l', c', A, L, C, Z, hcs, _, hl, hm, _, hrow⟩
  · simp [Value.cells] at hcs
    obtain ⟨rfl, rfl, rfl⟩ := hcs
    exact ⟨[], rfl, ⟨rfl, by simp, fun h => by simp at h⟩, by simp, by simp, by simp⟩
  · simp [Value.cells] at hcs
    obtain ⟨rfl, rfl, rfl⟩ := hcs
    have hz : ∀ r, r < len → ((Z r).take (L r)).length = L r := fun r hr => by
      obtain ⟨_, h1, _, h2, _⟩ := hrow r (by omega)
      rw [List.length_take]; omega
    refine ⟨(List.range len).map fun r => (Z r).take (L r), by simp, ⟨rfl, ?_, fun _ => ⟨a', rfl, fun j p hj => ?_⟩⟩, by simpa using hl, by simp; omega, ?_⟩
    · simp only [List.length_map, List.length_range]
      unfold maxLen at hm
      omega
    · rw [List.getElem?_map] at hj
      have hjl : j < len := by
        rcases Nat.lt_or_ge j len with h | h
        · exact h
        · rw [List.getElem?_eq_none (by simpa using h)] at hj; simp at hj
      rw [List.getElem?_range hjl] at hj
      simp only [Option.map_some, Option.some.injEq] at hj
      subst hj
      obtain ⟨h1, h2, h3, h4, h5, h6, h7⟩ := hrow j (by omega)
      refine ⟨[.slice (A j) (L j) (C j)], rfl, ⟨A j, C j, by rw [hz j hjl], by rw [hz j hjl]; exact h2, ?_⟩, ?_⟩
      · rw [hz j hjl]
        refine Kd.C_of_reads (d := (0 : Int)) (h1 := fun _ => rfl) ⟨hz j hjl, ?_, fun hn => ?_⟩
        · unfold maxLen at h3; omega
        · cases hA : A j with
          | none => have := h6 hA; omega
          | some ad =>
            refine ⟨ad, rfl, fun i hi => ?_⟩
            have := (h7 ad hA).2 i (by omega)
            rw [this]
            congr 2
            simp [List.getD_eq_getElem?_getD, List.getElem?_take, hi]
      · intro i u hu
        cases i with
        | succ i => simp at hu
        | zero =>
          simp only [List.getElem?_cons_zero, Option.some.injEq] at hu
          subst hu
          show w.cell? (a'.add (j * 1 + 0)) = _
          simpa using h1
    · intro y hy
      obtain ⟨r, hr, rfl⟩ := List.mem_map.1 hy
      have hr' := List.mem_range.1 hr
      obtain ⟨_, h1, h2, _⟩ := hrow r (by omega)
      rw [hz r hr']; omega
end Go.Proofs.Ytlakokejoifamaa.PlainRows
