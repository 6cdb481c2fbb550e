/- The program's wordsWith, WordsWith and BackCounts. Condition: contracts of the functions that they call. -/
import Derived.Test.YtdplpbhbacbcmaaClosureE
set_option linter.unusedVariables false
set_option linter.unusedSimpArgs false
namespace Go.Proofs.Ytdplpbhbacbcmaa.Closure
open Go.RowKit Go.Proofs.YtdplpbhbacbcmaaW.PrintWords Go.Proofs.YtdplpbhbacbcmaaW.PrintLast Go.Proofs.YtdplpbhbacbcmaaW.PrintMore Go.Proofs.Ytdplpbhbacbcmaa.Plain
/-- What wordsWith asks of the functions that it calls. -/
structure Asks (A0 : Option Addr) (n0 c0 : Nat) (cts : List Int) (m : Nat) : Prop where
  h57 : ∀ (W : World), Kd.C (Kd.int .i64) W A0 n0 cts → Calls Try.prog 57 #[.slice A0 n0 c0] W fun e w' => e = .returned (.int .i64 (m : Int)) ∧ Below W.heap.size W w'
  h32 : ∀ (ws : List Int) (Aw : Option Addr) (cw : Nat) (W : World), ws.length = m → (∀ q ∈ ws, 0 ≤ q ∧ q < (n0 : Int)) → Kd.C (Kd.int .i64) W Aw ws.length ws → ws.length ≤ cw →
      Calls Try.prog 32 #[.int .i64 (n0 : Int), .slice Aw ws.length cw] W fun e w' => ∃ A c, e = .returned (.slice A n0 c) ∧ n0 ≤ c ∧ Kd.C (Kd.int .i64) w' A n0 (cntsOf n0 ws) ∧ Below W.heap.size W w'
  h85 : ∀ (xs : List Int) (A : Option Addr) (c : Nat) (W : World), xs.length = n0 → Kd.C (Kd.int .i64) W A n0 xs → n0 ≤ c → Kd.C (Kd.int .i64) W A0 n0 cts →
      Calls Try.prog 85 #[.slice A n0 c, .slice A0 n0 c0] W fun e w' => e = .returned (.bool (decide (xs = cts))) ∧ Below W.heap.size W w'
theorem words84 (A0 : Option Addr) (n0 c0 : Nat) (cts : List Int) (m G : Nat) (fn : Func) (hF : Try.prog.funcs[G]? = some fn) (hname : (fn.name == "runtime.NumGoroutine") = false) (hb : fn.body.isSome = true) (capG : Array Value) (Z N : Nat) (J : Int → World → Prop) (g f : List Int → Int)
    (hf : ∀ ws, f ws = if cntsOf n0 ws = cts then g ws else 0) (hm : m ≤ 6) (hn3 : n0 ≤ 3) (hN : N < Z) (W : World) (hz : Z + 2 ≤ W.heap.size)
    (hJb : ∀ s w w1, J s w → Below w.heap.size w w1 → J s w1) (hJf : ∀ s w (p : Addr) u, J s w → Z ≤ p.block → J s (w.setCell p u)) (hJC : ∀ s w, J s w → Kd.C (Kd.int .i64) w A0 n0 cts)
    (hG : Inner n0 m G capG Z N J g) (hA : Asks A0 n0 c0 cts m) (hJ : JW J Z (Z + 1) (.slice A0 n0 c0) (.func (.func G) #[] capG) 0 W) :
    Calls Try.prog 47 #[.int .i64 (n0 : Int), .int .i64 (m : Int), .func (.func 84) #[] #[.pointer (some ⟨Z, 0, none⟩), .pointer (some ⟨Z + 1, 0, none⟩)]] W
      fun e w' => e = .returned (.tuple #[]) ∧ JW J Z (Z + 1) (.slice A0 n0 c0) (.func (.func G) #[] capG) (wsum n0 m f) w' := by
  refine words_calls n0 m 84 Try.f84 Try.func84 (by kernel_rfl) rfl _ (JW J Z (Z + 1) (.slice A0 n0 c0) (.func (.func G) #[] capG)) f _ ?_ ?_ hm hn3 ?_
  · exact tell84 A0 n0 c0 cts m G fn hF hname hb capG Z N _ J g f hf hm (by omega) hN (by omega) hJb hJC hG hA.h32 hA.h85
  · exact fun s w' i u h => ⟨hJf _ _ _ _ h.1 (by show Z ≤ _ + 3; omega), (Below.heap_setCell _ _ _ _ (by show Z ≠ _ + 3; omega)).trans h.2.1, (Below.heap_setCell _ _ _ _ (by show Z + 1 ≠ _ + 3; omega)).trans h.2.2⟩
  · exact fun w' hb' _ => hJ.below hJb hb'
theorem boxesW (w : World) (x t : Value) : ((w.alloc (.cells #[x] 23)).alloc (.cells #[t] 62)).heap[w.heap.size]? = some (.cells #[x] 23 (0, 0)) ∧ ((w.alloc (.cells #[x] 23)).alloc (.cells #[t] 62)).heap[w.heap.size + 1]? = some (.cells #[t] 62 (0, 0)) := by
  constructor
  · show ((w.heap.push _).push _)[_]? = _
    rw [push_old _ _ _ (by simp only [Array.size_push]; omega), push_new _ _ _ rfl]
  · show ((w.heap.push _).push _)[_]? = _
    rw [push_new _ _ _ (by simp only [Array.size_push])]
attribute [local go_sem] run_store_fn
set_option maxHeartbeats 8000000 in
set_option maxRecDepth 100000 in
theorem wordsWith_calls (A0 : Option Addr) (n0 c0 : Nat) (cts : List Int) (m G : Nat) (fn : Func) (hF : Try.prog.funcs[G]? = some fn) (hname : (fn.name == "runtime.NumGoroutine") = false) (hb : fn.body.isSome = true) (capG : Array Value) (N : Nat) (J : Int → World → Prop) (g f : List Int → Int)
    (hf : ∀ ws, f ws = if cntsOf n0 ws = cts then g ws else 0) (hm : m ≤ 6) (hn3 : n0 ≤ 3) (w : World) (hN : N < w.heap.size)
    (hJb : ∀ s w w1, J s w → Below w.heap.size w w1 → J s w1) (hJf : ∀ s w1 (p : Addr) u, J s w1 → w.heap.size ≤ p.block → J s (w1.setCell p u)) (hJC : ∀ s w, J s w → Kd.C (Kd.int .i64) w A0 n0 cts)
    (hG : Inner n0 m G capG w.heap.size N J g) (hA : Asks A0 n0 c0 cts m) (hJ : J 0 w) :
    Calls Try.prog 63 #[.slice A0 n0 c0, .func (.func G) #[] capG] w fun e w' => e = .returned (.tuple #[]) ∧ J (wsum n0 m f) w' := by
  have hB2 : Below w.heap.size w ((w.alloc (.cells #[.slice A0 n0 c0] 23)).alloc (.cells #[.func (.func G) #[] capG] 62)) := ((Below.refl _ _).alloc (Nat.le_refl _) _).alloc (by simp) _
  have hJ2 : JW J w.heap.size (w.heap.size + 1) (.slice A0 n0 c0) (.func (.func G) #[] capG) 0 ((w.alloc (.cells #[.slice A0 n0 c0] 23)).alloc (.cells #[.func (.func G) #[] capG] 62)) := ⟨hJb _ _ _ hJ hB2, boxesW w _ _⟩
  have HC := Aside0.mk (fun (W : World) hz hj => words84 A0 n0 c0 cts m G fn hF hname hb capG w.heap.size N J g f hf hm hn3 hN W hz hJb hJf hJC hG hA hj)
  have H57 := Aside0.mk hA.h57
  have HJb := Aside0.mk hJb
  have HJC := Aside0.mk hJC
  have HJ2 := Aside0.mk hJ2
  have cC := cell_of_one hJ2.2.1
  clear hB2 hJ2 hF hname hb hf hm hn3 hN hJb hJf hJC hG hA hJ
  go_enter Try.func63, Try.ntmps63
  go_wp2
  go_region_with (first
    | (go_at_call 57; refine (H57.out _ ?_).mono ?_; exact HJC.out 0 _ (HJb.out _ _ _ HJ2.out.1 (Below.refl _ _).drew); rintro e w1 ⟨rfl, hB1⟩; have HJ3 := Aside0.mk (HJ2.out.below HJb.out ((Below.refl _ _).drew.trans hB1)); have cC1 := cell_of_one HJ3.out.2.1; have HZ := Aside0.mk (show w.heap.size + 2 ≤ w1.heap.size from by have := hB1.size; simp at this; omega); clear hB1)
    | (go_at_call 47; refine (HC.out _ HZ.out HJ3.out).mono ?_; rintro e w2 ⟨rfl, hJ4⟩; have HJ4 := Aside0.mk hJ4; clear hJ4))
  all_goals go_end0
  all_goals exact ⟨rfl, HJ4.out.1⟩
/-- A sum's variable, over a world. -/
structure AN (w0 : World) (N : Nat) (s : Int) (w : World) : Prop where
  hb : Below w0.heap.size w0 w
  hn : w.heap[N]? = some (.cells #[.int .i64 (wrap64 s)] 3 (0, 0))
theorem AN.below {w0 w w1 : World} {N : Nat} {s : Int} (h : AN w0 N s w) (hb : Below w.heap.size w w1) : AN w0 N s w1 := ⟨h.hb.trans (hb.mono h.hb.size), (hb.block _ (lt_of_block h.hn)).trans h.hn⟩
theorem AN.far {w0 w : World} {N : Nat} {s : Int} (h : AN w0 N s w) {p : Addr} (h1 : w0.heap.size ≤ p.block) (h2 : N ≠ p.block) (u : Value) : AN w0 N s (w.setCell p u) := ⟨h.hb.setCell h1 u, (Below.heap_setCell _ _ _ _ h2).trans h.hn⟩
theorem AN.add {w0 w : World} {N : Nat} {s : Int} (h : AN w0 N s w) (hN : w0.heap.size ≤ N) (t : Int) : AN w0 N (s + t) (w.setCell ⟨N, 0, none⟩ (.int .i64 (IntKind.i64.wrap (wrap64 s + t)))) :=
  ⟨h.hb.setCell hN _, by
    rw [heap_setCell_same w N 0 _ _ _ h.hn]
    simp [show IntKind.i64.wrap (wrap64 s + t) = wrap64 (s + t) from by rw [wrap_i64]; unfold wrap64; omega]⟩
theorem AN.start {w0 w1 : World} (hb : Below w0.heap.size w0 w1) : AN w0 w1.heap.size 0 (w1.alloc (.cells #[.int .i64 0] 3)) := by
  refine ⟨hb.alloc hb.size _, ?_⟩
  show (w1.heap.push _)[_]? = _
  rw [push_new _ _ _ rfl]
  rw [show wrap64 0 = 0 from by unfold wrap64; rfl]
set_option maxHeartbeats 4000000 in
set_option maxRecDepth 100000 in
theorem tell64 (w0 : World) (n0 m Z N : Nat) (hN : w0.heap.size ≤ N) : Inner n0 m 64 #[.pointer (some ⟨N, 0, none⟩)] Z N (AN w0 N) (fun _ => 1) := by
  intro B ws s w hZ hl hws hC hJ
  have cN := cell_of_one hJ.hn
  have fN := free_of_one hJ.hn
  have HJ := Aside0.mk hJ
  have HN := Aside0.mk hN
  clear hJ hC hws hZ hN
  go_enter Try.func64, Try.ntmps64
  go_wp2
  go_end0
  have h := HJ.out.add HN.out 1
  rw [wrap_i64] at h
  exact ⟨rfl, h, w, _, Below.refl _ _, rfl⟩
set_option maxHeartbeats 4000000 in
set_option maxRecDepth 100000 in
theorem wordsWithN_calls (w0 : World) (col : Int) (A0 : Option Addr) (n0 c0 : Nat) (cts : List Int) (m : Nat) (ok : Bool) (f : List Int → Int) (hf : ∀ ws, f ws = if cntsOf n0 ws = cts then 1 else 0)
    (h30 : Calls Try.prog 30 #[.int .i64 col, .slice A0 n0 c0] w0 fun e w' => e = .returned (.bool ok) ∧ Below w0.heap.size w0 w')
    (hC : Kd.C (Kd.int .i64) w0 A0 n0 cts) (hm : ok = true → m ≤ 6 ∧ n0 ≤ 3) (hA : ok = true → Asks A0 n0 c0 cts m) :
    Calls Try.prog 27 #[.int .i64 col, .slice A0 n0 c0] w0 fun e w' => e = .returned (.int .i64 (if ok = true then wrap64 (wsum n0 m f) else -1)) ∧ Below w0.heap.size w0 w' := by
  have H30 := Aside0.mk h30
  cases ok with
  | false =>
    rw [if_neg (by simp)]
    clear h30 hm hA
    go_enter Try.func27, Try.ntmps27
    go_wp2_with (go_at_call 30; refine H30.out.mono ?_; rintro e w1 ⟨rfl, hB1⟩; have HB1 := Aside0.mk hB1; clear hB1)
    go_ret
    exact ⟨rfl, HB1.out⟩
  | true =>
    rw [if_pos rfl]
    have HC := Aside0.mk (fun (w1 : World) (hB : Below w0.heap.size w0 w1) => wordsWith_calls A0 n0 c0 cts m 64 Try.f64 Try.func64 (by kernel_rfl) rfl #[.pointer (some ⟨w1.heap.size, 0, none⟩)] w1.heap.size (AN w0 w1.heap.size) (fun _ => 1) f hf (hm rfl).1 (hm rfl).2 (w1.alloc (.cells #[.int .i64 0] 3)) (by simp)
      (fun s w w1 h hb => h.below hb) (fun s w2 p u h hp => h.far (by have := hB.size; simp at hp; omega) (by simp at hp; omega) u) (fun s w h => Kd.C_below hC h.hb) (tell64 w0 n0 m _ _ hB.size) (hA rfl) (AN.start hB))
    clear h30 hm hA hC hf
    go_enter Try.func27, Try.ntmps27
    go_wp2_with (first
      | (go_at_call 30; refine H30.out.mono ?_; rintro e w1 ⟨rfl, hB1⟩; have HB1 := Aside0.mk hB1; clear hB1)
      | (go_at_call 63; refine (HC.out w1 HB1.out).mono ?_; rintro e w2 ⟨rfl, hJ2⟩; have HJ2 := Aside0.mk hJ2; have cN2 := cell_of_one hJ2.hn; clear hJ2))
    go_ret
    exact ⟨rfl, HJ2.out.hb⟩
end Go.Proofs.Ytdplpbhbacbcmaa.Closure
