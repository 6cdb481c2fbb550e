/- The program's 'words' tells each word of so many draws once: what a teller adds for each word is added for all of them. Condition: the teller keeps the variables of 'words', and adds as its contract says. -/
import Derived.Test.YtdplpbhbacbcmaaProg
import Derived.Test.YtdplpbhbacbcmaaWMore
import Derived.Test.YtdplpbhbacbcmaaPlain
import Derived.WalkKit
import Derived.KernelRfl
import Derived.OneCell
import Derived.Laws.Rows
import Derived.Laws.MakeOwn
import Derived.Laws.Entries
import Derived.Deep.LoopGhost
set_option linter.unusedVariables false
set_option linter.unusedSimpArgs false
namespace Go.Proofs.Ytdplpbhbacbcmaa.Closure
open Go.RowKit Go.Proofs.YtdplpbhbacbcmaaW.PrintWords Go.Proofs.YtdplpbhbacbcmaaW.PrintLast Go.Proofs.YtdplpbhbacbcmaaW.PrintMore Go.Proofs.Ytdplpbhbacbcmaa.Plain

section
variable {P : Program} {ops : Array Oper} {Q : Exit → Act → World → Prop}
/-- A call of a function value that is known, by its contract. -/
theorem goesV {rest : List Oper} {oi : Oper} {a : Act} {w : World} (N : Option Tmp) (hd : oi.dst = N) (hg : oi.guard = none) {f : FuncId} {fn : Func} {x : Operand} {xs : Array Operand} {ts : Array TypeId} (hf : P.funcs[f]? = some fn) (hname : (fn.name == "runtime.NumGoroutine") = false) (hb : fn.body.isSome = true) (cap args : Array Value)
    (hop : oi.op = .call { callee := .value x, args := xs, argTypes := ts }) (hx : a.eval x = .func (.func f) #[] cap) (hargs : xs.map a.eval = args)
    (h : Calls P f (args ++ cap) w fun e w' => ∃ v, e = .returned v ∧ wpList P ops Q rest (a.put N v) w') : wpList P ops Q (oi :: rest) a w := by
  refine wpList_plain hg fun K hK => ?_
  have he := enters_ hf hname hb (args ++ cap) w
  have hrun : (execOp a.eval oi).run P w = .ok (.enter f (args ++ cap)) w := by
    unfold execOp
    simp [hop, resolve, Deferred.ofValue, invoke, hx, hargs, he]
  unfold Oper.wp
  rw [hrun, Oper.upon_enter]
  refine h.mono fun e w'' hh => ?_
  obtain ⟨v, rfl, hk⟩ := hh
  subst hd
  exact hK _ _ hk
end
def vals (ws : List Int) : Array Value := (ws.map (Value.int .i64)).toArray
/-- The variables of 'words': colours, many, tell, the word's row, word, try. -/
structure WI (c m F : Nat) (cap : Array Value) (B : Nat) (ws : List Int) (w : World) : Prop where
  hc : w.heap[B]? = some (.cells #[.int .i64 (c : Int)] 3 (0, 0))
  hm : w.heap[B + 1]? = some (.cells #[.int .i64 (m : Int)] 3 (0, 0))
  ht : w.heap[B + 2]? = some (.cells #[.func (.func F) #[] cap] 62 (0, 0))
  ha : w.heap[B + 3]? = some (.cells (vals ws) 3 (0, 0))
  hw : w.heap[B + 4]? = some (.cells #[.slice (some ⟨B + 3, 0, none⟩) m m] 23 (0, 0))
  hy : w.heap[B + 5]? = some (.cells #[.func (.func 80) #[] #[.pointer (some ⟨B + 1, 0, none⟩), .pointer (some ⟨B + 2, 0, none⟩), .pointer (some ⟨B + 4, 0, none⟩), .pointer (some ⟨B, 0, none⟩), .pointer (some ⟨B + 5, 0, none⟩)]] 75 (0, 0))
  hl : ws.length = m
section
variable {c m F : Nat} {cap : Array Value} {B : Nat} {ws : List Int} {w : World}
theorem vals_size (ws : List Int) : (vals ws).size = ws.length := by simp [vals]
theorem WI.cell (h : WI c m F cap B ws w) (i : Nat) (hi : i < m) : ∃ u, w.cell? ⟨B + 3, i, none⟩ = some u := by
  have := h.hl
  refine ⟨.int .i64 ws[i], ?_⟩
  simp [World.cell?, h.ha, vals]
theorem WI.free (h : WI c m F cap B ws w) (i : Nat) : w.frozen? ⟨B + 3, i, none⟩ = false := by simp [World.frozen?, h.ha]
theorem WI.set (h : WI c m F cap B ws w) (i : Nat) (x : Int) : WI c m F cap B (ws.set i x) (w.setCell ⟨B + 3, i, none⟩ (.int .i64 x)) where
  hc := (Below.heap_setCell _ _ _ _ (by show B ≠ B + 3; omega)).trans h.hc
  hm := (Below.heap_setCell _ _ _ _ (by show B + 1 ≠ B + 3; omega)).trans h.hm
  ht := (Below.heap_setCell _ _ _ _ (by show B + 2 ≠ B + 3; omega)).trans h.ht
  ha := by
    rw [heap_setCell_same w (B + 3) i _ _ _ h.ha]
    congr 2
    simp [vals, List.map_set]
  hw := (Below.heap_setCell _ _ _ _ (by show B + 4 ≠ B + 3; omega)).trans h.hw
  hy := (Below.heap_setCell _ _ _ _ (by show B + 5 ≠ B + 3; omega)).trans h.hy
  hl := by rw [List.length_set]; exact h.hl
end
/-- What try leaves: some word that begins as before, and the sum. -/
def Told (c m F : Nat) (cap : Array Value) (B : Nat) (J : Int → World → Prop) (pre : List Int) (s : Int) (e : Ending) (w' : World) : Prop :=
  e = .returned (.tuple #[]) ∧ ∃ ws', WI c m F cap B ws' w' ∧ ws'.take pre.length = pre ∧ J s w'
/-- The teller's contract. -/
def Tells (c m F : Nat) (cap : Array Value) (B : Nat) (J : Int → World → Prop) (f : List Int → Int) : Prop :=
  ∀ (ws : List Int) (s : Int) (w : World), (∀ q ∈ ws, 0 ≤ q ∧ q < (c : Int)) → WI c m F cap B ws w → J s w →
    Calls Try.prog F (#[.slice (some ⟨B + 3, 0, none⟩) m m] ++ cap) w fun e w' => e = .returned (.tuple #[]) ∧ WI c m F cap B ws w' ∧ J (s + f ws) w'
theorem run_makeFunc (fn : Fn) (first cap : Array Value) (w : World) : (Instr.makeFunc fn first cap).run Try.prog w = .ok (.func fn first cap) w := rfl
set_option maxHeartbeats 2000000 in
set_option maxRecDepth 100000 in
theorem try_last (c m F : Nat) (fn : Func) (hF : Try.prog.funcs[F]? = some fn) (hname : (fn.name == "runtime.NumGoroutine") = false) (hb : fn.body.isSome = true) (cap : Array Value) (B : Nat) (J : Int → World → Prop) (f : List Int → Int) (hT : Tells c m F cap B J f) (hm : m ≤ 6) (ws : List Int) (s : Int) (w : World) (hws : ∀ q ∈ ws, 0 ≤ q ∧ q < (c : Int)) (hW : WI c m F cap B ws w) (hJ : J s w) :
    Calls Try.prog 80 #[.int .i64 (m : Int), .pointer (some ⟨B + 1, 0, none⟩), .pointer (some ⟨B + 2, 0, none⟩), .pointer (some ⟨B + 4, 0, none⟩), .pointer (some ⟨B, 0, none⟩), .pointer (some ⟨B + 5, 0, none⟩)] w
      (Told c m F cap B J ws (s + f ws)) := by
  have cM := cell_of_one hW.hm
  have cT := cell_of_one hW.ht
  have cW := cell_of_one hW.hw
  have HT := Aside0.mk (hT ws s w hws hW hJ)
  have HL := Aside0.mk hW.hl
  clear hT hW hJ hws
  go_enter Try.func80, Try.ntmps80
  have hen : ∀ (args : Array Value) (w : World), (callFunc F args).run Try.prog w = .ok (.enter F args) w := fun args w => enters_ hF hname hb args w
  go_wp2_with ((with_reducible refine HT.out.mono ?_); rintro e w1 ⟨rfl, hW1, hJ1⟩; have HW1 := Aside0.mk hW1; have HJ1 := Aside0.mk hJ1; clear hW1 hJ1)
  refine bodyPost_ret (results_none rfl _ _ _) rfl ?_
  exact ⟨rfl, ws, HW1.out, List.take_length, HJ1.out⟩
theorem take_set_pre (ws : List Int) (i : Nat) (x : Int) (h : i < ws.length) : (ws.set i x).take (i + 1) = ws.take i ++ [x] := by
  rw [List.take_succ_eq_append_getElem (by rw [List.length_set]; exact h), List.getElem_set_self, List.take_set_of_le (Nat.le_refl _)]
set_option maxHeartbeats 2000000 in
set_option maxRecDepth 100000 in
theorem try_all (c m F : Nat) (fn : Func) (hF : Try.prog.funcs[F]? = some fn) (hname : (fn.name == "runtime.NumGoroutine") = false) (hb : fn.body.isSome = true) (cap : Array Value) (B : Nat) (J : Int → World → Prop) (f : List Int → Int) (hT : Tells c m F cap B J f)
    (hJ : ∀ s w i u, J s w → J s (w.setCell ⟨B + 3, i, none⟩ u)) (hm : m ≤ 6) (hc : c ≤ 3) (d : Nat) : ∀ (i : Nat) (ws : List Int) (s : Int) (w : World), i + d = m → (∀ q ∈ ws.take i, 0 ≤ q ∧ q < (c : Int)) → WI c m F cap B ws w → J s w →
    Calls Try.prog 80 #[.int .i64 (i : Int), .pointer (some ⟨B + 1, 0, none⟩), .pointer (some ⟨B + 2, 0, none⟩), .pointer (some ⟨B + 4, 0, none⟩), .pointer (some ⟨B, 0, none⟩), .pointer (some ⟨B + 5, 0, none⟩)] w
      (Told c m F cap B J (ws.take i) (s + wsum c d (fun v => f (ws.take i ++ v)))) := by
  induction d with
  | zero =>
    intro i ws s w hi hq hW hs
    have hl := hW.hl
    obtain rfl : i = m := by omega
    have e : ws.take i = ws := List.take_of_length_le (by omega)
    rw [e] at hq ⊢
    simp only [wsum, List.append_nil]
    exact try_last c i F fn hF hname hb cap B J f hT hm ws s w hq hW hs
  | succ d ih =>
    intro i ws s w hi hq hW hs
    have IH := Aside0.mk ih
    have HT := Aside0.mk hT
    have HJ := Aside0.mk hJ
    have HQ := Aside0.mk hq
    have HW0 := Aside0.mk hW
    have HS0 := Aside0.mk hs
    have HI := Aside0.mk hi
    have cM := cell_of_one hW.hm
    have cC := cell_of_one hW.hc
    have hne : ((i : Int) == (m : Int)) = false := by simp; omega
    clear ih hT hJ hq hW hs hF hname hb hi
    go_enter Try.func80, Try.ntmps80
    go_wp2
    go_loopg [15] (c + 1) (fun kq v15 w' => ∃ (j : Nat) (ws' : List Int), v15 = .int .i64 (j : Int) ∧ Aside0 (j + kq = c + 1 ∧ j ≤ c) ∧ Aside0 (WI c m F cap B ws' w') ∧ Aside0 (ws'.take i = ws.take i) ∧ Aside0 (J (s + sumN (fun r => wsum c d (fun v => f (ws.take i ++ ((r : Int) :: v)))) j) w'))
    case atStart => exact ⟨0, ws, rfl, ⟨by omega, by omega⟩, HW0, ⟨rfl⟩, ⟨by simpa [sumN] using HS0.out⟩⟩
    case round =>
      obtain ⟨j, ws', rfl, HK, HW, HP, HS⟩ := hrel
      have hl := HW.out.hl
      have hI := HI.out
      have hK := HK.out
      cases gk with
      | zero => exact absurd hK (by omega)
      | succ k1 =>
        by_cases hlt : j < c
        · have hlt0 : (j : Int) < (c : Int) := by omega
          have hi0 : (i : Int) < (m : Int) := by omega
          have cW := cell_of_one HW.out.hw
          obtain ⟨u0, cA⟩ := HW.out.cell i (by omega)
          have fA := HW.out.free i
          have HW2 := Aside0.mk (HW.out.set i (j : Int))
          have cY := cell_of_one HW2.out.hy
          have hpre : (ws'.set i (j : Int)).take (i + 1) = ws.take i ++ [(j : Int)] := by rw [take_set_pre ws' i _ (by omega), HP.out]
          have HPRE := Aside0.mk hpre
          have hC := IH.out (i + 1) (ws'.set i (j : Int)) _ _ (by omega) (by
            rw [hpre]; intro q hq
            rcases List.mem_append.1 hq with hq | hq
            · exact HQ.out q hq
            · have : q = (j : Int) := by simpa using hq
              omega) HW2.out (HJ.out _ _ i (.int .i64 (j : Int)) HS.out)
          rw [hpre, show ((i + 1 : Nat) : Int) = (i : Int) + 1 from by omega] at hC
          have HC := Aside0.mk hC
          have HPL := Aside0.mk (show (ws.take i).length = i by
            have h1 := congrArg List.length HP.out
            rw [List.length_take, List.length_take] at h1
            rw [List.length_take]; omega)
          clear hpre hC hl hI hK
          go_wp2_with ((with_reducible refine HC.out.mono ?_); rintro e w1 ⟨rfl, ws2, hW3, hP3, hS3⟩; have HW3 := Aside0.mk hW3; have HP3 := Aside0.mk hP3; have HS3 := Aside0.mk hS3; clear hW3 hP3 hS3)
          go_roundg k1
          case measure => omega
          case rel =>
            refine ⟨j + 1, ws2, by go_num, ⟨by have := HK.out; omega, by omega⟩, HW3, ⟨?_⟩, ⟨?_⟩⟩
            · have h1 := HP3.out
              have h2 := HPL.out
              rw [List.length_append, List.length_singleton, h2] at h1
              have h4 : (ws.take i ++ [(j : Int)]).take i = ws.take i := by rw [List.take_append_of_le_length (by omega)]; exact List.take_of_length_le (by omega)
              have h5 : (ws2.take (i + 1)).take i = ws2.take i := by rw [List.take_take, Nat.min_eq_left (by omega)]
              rw [← h5, h1, h4]
            · have h1 := HS3.out
              simp only [sumN]
              rw [← Int.add_assoc]
              simpa [List.append_assoc] using h1
        · have hlt0 : ¬ (j : Int) < (c : Int) := by omega
          obtain rfl : j = c := by omega
          have HPL := Aside0.mk (show (ws.take i).length = i by
            have h1 := congrArg List.length HP.out
            rw [List.length_take, List.length_take] at h1
            rw [List.length_take]; omega)
          clear hl hI hK
          go_wp2
          go_end0
          exact ⟨rfl, ws', HW.out, by rw [HPL.out]; exact HP.out, HS.out⟩

theorem run_store_fn (P : Program) (w : World) (a : Addr) (m : Mode) (fn : Fn) (first cap : Array Value) : (store a (.func fn first cap) m).run P w = stored P w a (.func fn first cap) m := run_store P w a _ m rfl
theorem run_make_nums (m : Nat) (hm : m ≤ 6) (W : World) : (Instr.makeSlice 23 (.int .i64 (m : Int)) (.int .i64 (m : Int))).run Try.prog W = .ok (.slice (some ⟨W.heap.size, 0, none⟩) m m) (W.alloc (.cells (vals (List.replicate m 0)) 3)) := by
  have hi : (Try.prog.info? 3).map (fun i => (i.zero, i.size, i.bytes)) = some (some (.int .i64 0), 1, 8) := by kernel_rfl
  obtain ⟨i, h1, he⟩ := Option.map_eq_some_iff.1 hi
  have h2 : i.zero = some (.int .i64 0) := congrArg (·.1) he
  have h4 : i.size = 1 := congrArg (·.2.1) he
  have h3 : i.bytes = 8 := congrArg (·.2.2) he
  have hr := run_make (P := Try.prog) W 23 3 i (.int .i64 0) Try.underlying23 h1 h2 .i64 .i64 m m (by omega) (by omega) (by rw [h3]; omega) (by omega)
  simp only [Int.toNat_natCast, h4] at hr
  rw [hr]
  congr 2
  congr 1
  apply Array.ext
  · simp [madeCells, vals]
  · intro j h1 h2
    simp [madeCells, vals, Value.cells, Nat.mod_one]
theorem push_old {α : Type} (A : Array α) (x : α) (i : Nat) (h : i < A.size) : (A.push x)[i]? = A[i]? := by
  rw [Array.getElem?_push, if_neg (by omega)]
theorem push_new {α : Type} (A : Array α) (x : α) (i : Nat) (h : i = A.size) : (A.push x)[i]? = some x := by
  rw [Array.getElem?_push, if_pos h]
theorem wi_start (c m F : Nat) (cap : Array Value) (w : World) : WI c m F cap w.heap.size (List.replicate m 0)
    ((((((w.alloc (.cells #[.int .i64 (c : Int)] 3)).alloc (.cells #[.int .i64 (m : Int)] 3)).alloc (.cells #[.func (.func F) #[] cap] 62)).alloc (.cells (vals (List.replicate m 0)) 3)).alloc (.cells #[.slice (some ⟨w.heap.size + 1 + 1 + 1, 0, none⟩) m m] 23)).alloc
      (.cells #[.func (.func 80) #[] #[.pointer (some ⟨w.heap.size + 1, 0, none⟩), .pointer (some ⟨w.heap.size + 1 + 1, 0, none⟩), .pointer (some ⟨w.heap.size + 1 + 1 + 1 + 1, 0, none⟩), .pointer (some ⟨w.heap.size, 0, none⟩), .pointer (some ⟨w.heap.size + 1 + 1 + 1 + 1 + 1, 0, none⟩)]] 75)) where
  hc := by
    show ((((((w.heap.push _).push _).push _).push _).push _).push _)[_]? = _
    rw [push_old _ _ _ (by simp only [Array.size_push]; omega), push_old _ _ _ (by simp only [Array.size_push]; omega), push_old _ _ _ (by simp only [Array.size_push]; omega), push_old _ _ _ (by simp only [Array.size_push]; omega), push_old _ _ _ (by simp only [Array.size_push]; omega), push_new _ _ _ (by simp only [Array.size_push])]
  hm := by
    show ((((((w.heap.push _).push _).push _).push _).push _).push _)[_]? = _
    rw [push_old _ _ _ (by simp only [Array.size_push]; omega), push_old _ _ _ (by simp only [Array.size_push]; omega), push_old _ _ _ (by simp only [Array.size_push]; omega), push_old _ _ _ (by simp only [Array.size_push]; omega), push_new _ _ _ (by simp only [Array.size_push])]
  ht := by
    show ((((((w.heap.push _).push _).push _).push _).push _).push _)[_]? = _
    rw [push_old _ _ _ (by simp only [Array.size_push]; omega), push_old _ _ _ (by simp only [Array.size_push]; omega), push_old _ _ _ (by simp only [Array.size_push]; omega), push_new _ _ _ (by simp only [Array.size_push])]
  ha := by
    show ((((((w.heap.push _).push _).push _).push _).push _).push _)[_]? = _
    rw [push_old _ _ _ (by simp only [Array.size_push]; omega), push_old _ _ _ (by simp only [Array.size_push]; omega), push_new _ _ _ (by simp only [Array.size_push])]
  hw := by
    show ((((((w.heap.push _).push _).push _).push _).push _).push _)[_]? = _
    rw [push_old _ _ _ (by simp only [Array.size_push]; omega), push_new _ _ _ (by simp only [Array.size_push])]
  hy := by
    show ((((((w.heap.push _).push _).push _).push _).push _).push _)[_]? = _
    rw [push_new _ _ _ (by simp only [Array.size_push])]
  hl := by simp
attribute [local go_sem] run_store_fn
set_option maxHeartbeats 2000000 in
set_option maxRecDepth 100000 in
theorem words_calls (c m F : Nat) (fn : Func) (hF : Try.prog.funcs[F]? = some fn) (hname : (fn.name == "runtime.NumGoroutine") = false) (hb : fn.body.isSome = true) (cap : Array Value) (J : Int → World → Prop) (f : List Int → Int) (w : World)
    (hT : Tells c m F cap w.heap.size J f) (hJ : ∀ s w' i u, J s w' → J s (w'.setCell ⟨w.heap.size + 3, i, none⟩ u)) (hm : m ≤ 6) (hc : c ≤ 3)
    (hs : ∀ w', Below w.heap.size w w' → w.heap.size + 6 ≤ w'.heap.size → J 0 w') :
    Calls Try.prog 47 #[.int .i64 (c : Int), .int .i64 (m : Int), .func (.func F) #[] cap] w fun e w' => e = .returned (.tuple #[]) ∧ J (wsum c m f) w' := by
  have hmake := run_make_nums m hm
  have HA := Aside0.mk (try_all c m F fn hF hname hb cap w.heap.size J f hT hJ hm hc m 0)
  have HS := Aside0.mk hs
  clear hT hJ hs hF hname hb
  go_enter Try.func47, Try.ntmps47
  go_wp2_with (refine (HA.out (List.replicate m 0) 0 _ (by omega) (by simp) (wi_start c m F cap w) (HS.out _ ((((((((Below.refl _ _).alloc (Nat.le_refl _) _).alloc (by simp) _).alloc (by simp; omega) _).alloc (by simp; omega) _).alloc (by simp; omega) _).alloc (by simp; omega) _)) (by simp))).mono ?_; rintro e w1 ⟨rfl, ws1, _, _, hs1⟩; have HS1 := Aside0.mk hs1; clear hs1)
  go_end0
  exact ⟨rfl, by simpa using HS1.out⟩
end Go.Proofs.Ytdplpbhbacbcmaa.Closure
