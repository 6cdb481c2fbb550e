/- The program's RuleAll, BallSum and the like over 'words': what a teller adds is added over all words. Condition: contracts of the functions that they call. -/
import Derived.Test.YtdplpbhbacbcmaaClosure
import Derived.Deep.RegionWith
import Derived.Deep.DeepMust
set_option linter.unusedVariables false
set_option linter.unusedSimpArgs false
namespace Go.Proofs.Ytdplpbhbacbcmaa.Closure
open Go.RowKit Go.Proofs.YtdplpbhbacbcmaaW.PrintWords Go.Proofs.YtdplpbhbacbcmaaW.PrintLast Go.Proofs.YtdplpbhbacbcmaaW.PrintMore Go.Proofs.Ytdplpbhbacbcmaa.Plain
section
variable {c m F : Nat} {cap : Array Value} {B : Nat} {ws : List Int} {w w1 : World}
theorem WI.below (h : WI c m F cap B ws w) (hb : Below w.heap.size w w1) : WI c m F cap B ws w1 :=
  ⟨(hb.block _ (lt_of_block h.hc)).trans h.hc, (hb.block _ (lt_of_block h.hm)).trans h.hm, (hb.block _ (lt_of_block h.ht)).trans h.ht, (hb.block _ (lt_of_block h.ha)).trans h.ha, (hb.block _ (lt_of_block h.hw)).trans h.hw, (hb.block _ (lt_of_block h.hy)).trans h.hy, h.hl⟩
theorem WI.far (h : WI c m F cap B ws w) {p : Addr} (hp : p.block < B) (u : Value) : WI c m F cap B ws (w.setCell p u) where
  hc := (Below.heap_setCell _ _ _ _ (by omega)).trans h.hc
  hm := (Below.heap_setCell _ _ _ _ (by omega)).trans h.hm
  ht := (Below.heap_setCell _ _ _ _ (by omega)).trans h.ht
  ha := (Below.heap_setCell _ _ _ _ (by omega)).trans h.ha
  hw := (Below.heap_setCell _ _ _ _ (by omega)).trans h.hw
  hy := (Below.heap_setCell _ _ _ _ (by omega)).trans h.hy
  hl := h.hl
theorem WI.reads (h : WI c m F cap B ws w) (hm : m ≤ 6) : Kd.C (Kd.int .i64) w (some ⟨B + 3, 0, none⟩) ws.length ws := by
  refine Kd.C_of_reads (d := (0 : Int)) (h1 := fun _ => rfl) ⟨rfl, by have := h.hl; omega, fun _ => ⟨_, rfl, fun j hj => ?_⟩⟩
  have h2 := h.ha
  have h3 : Addr.add ⟨B + 3, 0, none⟩ j = ⟨B + 3, j, none⟩ := by cases j <;> simp [Addr.add]
  rw [h3]
  simp [World.cell?, h2, vals, hj]
end
theorem wrap_i64 (x : Int) : IntKind.i64.wrap x = wrap64 x := by rw [IntKind.wrap_i64]; unfold wrap64; rfl
/-- The boxes of an urn, a rule and a sum. -/
structure AJ (w0 : World) (x y : Value) (U R N : Nat) (s : Int) (w : World) : Prop where
  hb : Below w0.heap.size w0 w
  hu : w.heap[U]? = some (.cells #[x] 23 (0, 0))
  hr : w.heap[R]? = some (.cells #[y] 24 (0, 0))
  hn : w.heap[N]? = some (.cells #[.int .i64 (wrap64 s)] 3 (0, 0))
section
variable {w0 w w1 : World} {x y : Value} {U R N : Nat} {s : Int}
theorem AJ.below (h : AJ w0 x y U R N s w) (hb : Below w.heap.size w w1) : AJ w0 x y U R N s w1 :=
  ⟨h.hb.trans (hb.mono h.hb.size), (hb.block _ (lt_of_block h.hu)).trans h.hu, (hb.block _ (lt_of_block h.hr)).trans h.hr, (hb.block _ (lt_of_block h.hn)).trans h.hn⟩
theorem AJ.far (h : AJ w0 x y U R N s w) {p : Addr} (hp : w0.heap.size ≤ p.block) (h1 : U ≠ p.block) (h2 : R ≠ p.block) (h3 : N ≠ p.block) (u : Value) : AJ w0 x y U R N s (w.setCell p u) :=
  ⟨h.hb.setCell hp u, (Below.heap_setCell _ _ _ _ h1).trans h.hu, (Below.heap_setCell _ _ _ _ h2).trans h.hr, (Below.heap_setCell _ _ _ _ h3).trans h.hn⟩
theorem AJ.add (h : AJ w0 x y U R N s w) (hN : w0.heap.size ≤ N) (h1 : U ≠ N) (h2 : R ≠ N) (t : Int) : AJ w0 x y U R N (s + t) (w.setCell ⟨N, 0, none⟩ (.int .i64 (IntKind.i64.wrap (wrap64 s + t)))) :=
  ⟨h.hb.setCell hN _, (Below.heap_setCell _ _ _ _ h1).trans h.hu, (Below.heap_setCell _ _ _ _ h2).trans h.hr, by
    rw [heap_setCell_same w N 0 _ _ _ h.hn]
    simp [show IntKind.i64.wrap (wrap64 s + t) = wrap64 (s + t) from by rw [wrap_i64]; unfold wrap64; omega]⟩
end
theorem boxes2 (w0 : World) (x y : Value) : ((w0.alloc (.cells #[x] 23)).alloc (.cells #[y] 24)).heap[w0.heap.size]? = some (.cells #[x] 23 (0, 0)) ∧ ((w0.alloc (.cells #[x] 23)).alloc (.cells #[y] 24)).heap[w0.heap.size + 1]? = some (.cells #[y] 24 (0, 0)) := by
  constructor
  · show ((w0.heap.push _).push _)[_]? = _
    rw [push_old _ _ _ (by simp only [Array.size_push]; omega), push_new _ _ _ rfl]
  · show ((w0.heap.push _).push _)[_]? = _
    rw [push_new _ _ _ (by simp only [Array.size_push])]
theorem aj_start {w0 w1 : World} {x y : Value} (hB : Below (w0.heap.size + 1 + 1) ((w0.alloc (.cells #[x] 23)).alloc (.cells #[y] 24)) w1) : AJ w0 x y w0.heap.size (w0.heap.size + 1) w1.heap.size 0 (w1.alloc (.cells #[.int .i64 0] 3)) where
  hb := ((((Below.refl _ _).alloc (Nat.le_refl _) _).alloc (by simp) _).trans (hB.mono (by omega))).alloc (by have := hB.size; simp at this; omega) _
  hu := by
    have := hB.size
    rw [Below.heap_alloc _ _ _ (by simp at this; omega), hB.block _ (by omega)]
    exact (boxes2 w0 x y).1
  hr := by
    have := hB.size
    rw [Below.heap_alloc _ _ _ (by simp at this; omega), hB.block _ (by omega)]
    exact (boxes2 w0 x y).2
  hn := by
    show (w1.heap.push _)[_]? = _
    rw [push_new _ _ _ rfl]
    rw [show wrap64 0 = 0 from by unfold wrap64; rfl]
set_option maxHeartbeats 4000000 in
set_option maxRecDepth 100000 in
theorem tell58 (w0 : World) (A0 : Option Addr) (n0 c0 : Nat) (A1 : Option Addr) (n1 c1 : Nat) (m U R N B : Nat) (f : List Int → Int) (hm : m ≤ 6) (hU : U < N) (hR : R < N) (hN : N < B) (hN0 : w0.heap.size ≤ N)
    (h49 : ∀ (ws : List Int) (Aw : Option Addr) (cw : Nat) (W : World), ws.length = m → (∀ q ∈ ws, 0 ≤ q ∧ q < (n0 : Int)) → Below w0.heap.size w0 W → Kd.C (Kd.int .i64) W Aw ws.length ws → ws.length ≤ cw →
      Calls Try.prog 49 #[.slice A0 n0 c0, .slice A1 n1 c1, .slice Aw ws.length cw] W fun e w' => e = .returned (.int .i64 (f ws)) ∧ Below W.heap.size W w') :
    Tells n0 m 58 #[.pointer (some ⟨N, 0, none⟩), .pointer (some ⟨U, 0, none⟩), .pointer (some ⟨R, 0, none⟩)] B (AJ w0 (.slice A0 n0 c0) (.slice A1 n1 c1) U R N) f := by
  intro ws s w hws hW hJ
  have hl := hW.hl
  subst hl
  have cU := cell_of_one hJ.hu
  have cR := cell_of_one hJ.hr
  have cN := cell_of_one hJ.hn
  have fN := free_of_one hJ.hn
  have HW := Aside0.mk hW
  have HJ := Aside0.mk hJ
  have H49 := Aside0.mk (fun W hb hc => h49 ws (some ⟨B + 3, 0, none⟩) ws.length W rfl hws hb hc (Nat.le_refl _))
  have HN := Aside0.mk (⟨hU, hR, hN, hN0, hm⟩ : U < N ∧ R < N ∧ N < B ∧ w0.heap.size ≤ N ∧ ws.length ≤ 6)
  clear hW hJ h49 hws hU hR hN hN0 hm
  go_enter Try.func58, Try.ntmps58
  go_wp2
  go_region_with (go_at_call 49; refine (H49.out _ ?_ ?_).mono ?_; exact HJ.out.hb.drew; exact Kd.C_below (HW.out.reads HN.out.2.2.2.2) (Below.refl _ _).drew; rintro e w1 ⟨rfl, hB1⟩; have HB1 := Aside0.mk hB1; have cN1 := cell_of_one ((HJ.out.below ((Below.refl _ _).drew.trans hB1)).hn); have fN1 := free_of_one ((HJ.out.below ((Below.refl _ _).drew.trans hB1)).hn); clear hB1)
  all_goals go_end0
  all_goals
    have h1 := HN.out
    have hb := (Below.refl w.heap.size w).drew.trans HB1.out
    exact ⟨rfl, (HW.out.below hb).far (by show N < B; omega) _, (HJ.out.below hb).add (by omega) (by omega) (by omega) _⟩
theorem words58 (w0 w1 : World) (A0 : Option Addr) (n0 c0 : Nat) (A1 : Option Addr) (n1 c1 : Nat) (m : Nat) (f : List Int → Int) (hm : m ≤ 6) (hn3 : n0 ≤ 3)
    (hJ0 : AJ w0 (.slice A0 n0 c0) (.slice A1 n1 c1) w0.heap.size (w0.heap.size + 1) w1.heap.size 0 (w1.alloc (.cells #[.int .i64 0] 3))) (hz : w0.heap.size + 2 ≤ w1.heap.size)
    (h49 : ∀ (ws : List Int) (Aw : Option Addr) (cw : Nat) (W : World), ws.length = m → (∀ q ∈ ws, 0 ≤ q ∧ q < (n0 : Int)) → Below w0.heap.size w0 W → Kd.C (Kd.int .i64) W Aw ws.length ws → ws.length ≤ cw →
      Calls Try.prog 49 #[.slice A0 n0 c0, .slice A1 n1 c1, .slice Aw ws.length cw] W fun e w' => e = .returned (.int .i64 (f ws)) ∧ Below W.heap.size W w') :
    Calls Try.prog 47 #[.int .i64 (n0 : Int), .int .i64 (m : Int), .func (.func 58) #[] #[.pointer (some ⟨w1.heap.size, 0, none⟩), .pointer (some ⟨w0.heap.size, 0, none⟩), .pointer (some ⟨w0.heap.size + 1, 0, none⟩)]] (w1.alloc (.cells #[.int .i64 0] 3))
      fun e w' => e = .returned (.tuple #[]) ∧ AJ w0 (.slice A0 n0 c0) (.slice A1 n1 c1) w0.heap.size (w0.heap.size + 1) w1.heap.size (wsum n0 m f) w' := by
  have hs : (w1.alloc (.cells #[.int .i64 0] 3)).heap.size = w1.heap.size + 1 := by simp
  refine words_calls n0 m 58 Try.f58 Try.func58 (by kernel_rfl) rfl _ (AJ w0 (.slice A0 n0 c0) (.slice A1 n1 c1) w0.heap.size (w0.heap.size + 1) w1.heap.size) f _ ?_ ?_ hm hn3 ?_
  · exact tell58 w0 A0 n0 c0 A1 n1 c1 m _ _ _ _ f hm (by omega) (by omega) (by omega) (by omega) h49
  · exact fun s w' i u h => h.far (by show _ ≤ _ + 3; omega) (by show _ ≠ _ + 3; omega) (by show _ ≠ _ + 3; omega) (by show _ ≠ _ + 3; omega) _
  · exact fun w' hb _ => hJ0.below hb
set_option maxHeartbeats 4000000 in
set_option maxRecDepth 100000 in
theorem ruleAll_calls (w0 : World) (A0 : Option Addr) (n0 c0 : Nat) (A1 : Option Addr) (n1 c1 : Nat) (many : Int) (asked : Bool) (f : List Int → Int) (hn3 : asked = true → n0 ≤ 3)
    (h46 : ∀ (W : World), Below w0.heap.size w0 W → Calls Try.prog 46 #[.slice A0 n0 c0, .slice A1 n1 c1] W fun e w' => e = .returned (.bool asked) ∧ Below W.heap.size W w')
    (h49 : asked = true → ∀ (ws : List Int) (Aw : Option Addr) (cw : Nat) (W : World), ws.length = many.toNat → many.toNat ≤ 6 → (∀ q ∈ ws, 0 ≤ q ∧ q < (n0 : Int)) → Below w0.heap.size w0 W → Kd.C (Kd.int .i64) W Aw ws.length ws → ws.length ≤ cw →
      Calls Try.prog 49 #[.slice A0 n0 c0, .slice A1 n1 c1, .slice Aw ws.length cw] W fun e w' => e = .returned (.int .i64 (f ws)) ∧ Below W.heap.size W w') :
    Calls Try.prog 18 #[.slice A0 n0 c0, .slice A1 n1 c1, .int .i64 many] w0 fun e w' => e = .returned (.int .i64 (if asked = true ∧ 0 ≤ many ∧ many ≤ 6 then wrap64 (wsum n0 many.toNat f) else -1)) ∧ Below w0.heap.size w0 w' := by
  have H46 := Aside0.mk h46
  clear h46
  by_cases hc : asked = true ∧ 0 ≤ many ∧ many ≤ 6
  case neg =>
    rw [if_neg hc]
    clear h49 hn3
    cases asked with
    | false =>
      clear hc
      go_enter Try.func18, Try.ntmps18
      go_wp2_with (go_at_call 46; refine (H46.out _ ?_).mono ?_; exact ((Below.refl _ _).alloc (Nat.le_refl _) _).alloc (by simp) _; rintro e w1 ⟨rfl, hB1⟩; have HB1 := Aside0.mk hB1; clear hB1)
      go_ret
      exact ⟨rfl, (((Below.refl _ _).alloc (Nat.le_refl _) _).alloc (by simp) _).trans (HB1.out.mono (by simp; omega))⟩
    | true =>
      have h1 : many < 0 ∨ ¬ many < 0 ∧ 6 < many := by simp at hc; omega
      clear hc
      rcases h1 with h1 | ⟨h1, h2⟩
      all_goals
        go_enter Try.func18, Try.ntmps18
        go_wp2_with (go_at_call 46; refine (H46.out _ ?_).mono ?_; exact ((Below.refl _ _).alloc (Nat.le_refl _) _).alloc (by simp) _; rintro e w1 ⟨rfl, hB1⟩; have HB1 := Aside0.mk hB1; clear hB1)
        go_ret
        exact ⟨rfl, (((Below.refl _ _).alloc (Nat.le_refl _) _).alloc (by simp) _).trans (HB1.out.mono (by simp; omega))⟩
  case pos =>
    rw [if_pos hc]
    obtain ⟨rfl, hm0, hm6⟩ := hc
    obtain ⟨m, rfl⟩ := Int.eq_ofNat_of_zero_le hm0
    rw [Int.toNat_natCast] at h49 ⊢
    have H49 := Aside0.mk (h49 rfl)
    have HM := Aside0.mk (show m ≤ 6 ∧ n0 ≤ 3 from ⟨by omega, hn3 rfl⟩)
    have g1 : ¬ (m : Int) < 0 := by omega
    have g2 : ¬ 6 < (m : Int) := by omega
    clear h49 hn3 hm0 hm6
    go_enter Try.func18, Try.ntmps18
    go_wp2_with (first
      | (go_at_call 46; refine (H46.out _ ?_).mono ?_; exact ((Below.refl _ _).alloc (Nat.le_refl _) _).alloc (by simp) _; rintro e w1 ⟨rfl, hB1⟩
         have hJ0 := aj_start (x := .slice A0 n0 c0) (y := .slice A1 n1 c1) (hB1.mono (by simp))
         have hz : w0.heap.size + 2 ≤ w1.heap.size := by have := hB1.size; simp at this; omega
         have cU1 := cell_of_one hJ0.hu
         have HC := Aside0.mk (words58 w0 w1 A0 n0 c0 A1 n1 c1 m f HM.out.1 HM.out.2 hJ0 hz (fun ws Aw cw W h1 h2 h3 h4 h5 => H49.out ws Aw cw W h1 HM.out.1 h2 h3 h4 h5)); clear hJ0 hz hB1)
      | (go_at_call 47
         refine HC.out.mono ?_
         rintro e w2 ⟨rfl, hJ2⟩
         have cN2 := cell_of_one hJ2.hn
         have HJ2 := Aside0.mk hJ2
         clear hJ2))
    go_ret
    exact ⟨rfl, HJ2.out.hb⟩
end Go.Proofs.Ytdplpbhbacbcmaa.Closure
