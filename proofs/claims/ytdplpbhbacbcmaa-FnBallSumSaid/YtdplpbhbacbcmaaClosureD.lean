/- The program's BallSum over 'words'. Condition: contracts of the functions that it calls. -/
import Derived.Test.YtdplpbhbacbcmaaClosureC
set_option linter.unusedVariables false
set_option linter.unusedSimpArgs false
namespace Go.Proofs.Ytdplpbhbacbcmaa.Closure
open Go.RowKit Go.Proofs.YtdplpbhbacbcmaaW.PrintWords Go.Proofs.YtdplpbhbacbcmaaW.PrintLast Go.Proofs.YtdplpbhbacbcmaaW.PrintMore Go.Proofs.Ytdplpbhbacbcmaa.Plain
theorem boxes3 (w0 : World) (x y z : Value) : (((w0.alloc (.cells #[x] 23)).alloc (.cells #[y] 24)).alloc (.cells #[z] 3)).heap[w0.heap.size]? = some (.cells #[x] 23 (0, 0)) ∧ (((w0.alloc (.cells #[x] 23)).alloc (.cells #[y] 24)).alloc (.cells #[z] 3)).heap[w0.heap.size + 1]? = some (.cells #[y] 24 (0, 0))
    ∧ (((w0.alloc (.cells #[x] 23)).alloc (.cells #[y] 24)).alloc (.cells #[z] 3)).heap[w0.heap.size + 1 + 1]? = some (.cells #[z] 3 (0, 0)) := by
  refine ⟨?_, ?_, ?_⟩
  · show (((w0.heap.push _).push _).push _)[_]? = _
    rw [push_old _ _ _ (by simp only [Array.size_push]; omega), push_old _ _ _ (by simp only [Array.size_push]; omega), push_new _ _ _ rfl]
  · show (((w0.heap.push _).push _).push _)[_]? = _
    rw [push_old _ _ _ (by simp only [Array.size_push]; omega), push_new _ _ _ (by simp only [Array.size_push])]
  · show (((w0.heap.push _).push _).push _)[_]? = _
    rw [push_new _ _ _ (by simp only [Array.size_push])]
theorem ak_start {w0 w1 : World} {x y : Value} {U R K : Nat} {q : Int} (hb : Below w0.heap.size w0 w1) (hu : w1.heap[U]? = some (.cells #[x] 23 (0, 0))) (hr : w1.heap[R]? = some (.cells #[y] 24 (0, 0))) (hk : w1.heap[K]? = some (.cells #[.int .i64 q] 3 (0, 0))) :
    AK w0 x y U R K w1.heap.size q 0 (w1.alloc (.cells #[.int .i64 0] 3)) := by
  refine ⟨⟨hb.alloc hb.size _, ?_, ?_, ?_⟩, ?_⟩
  · rw [Below.heap_alloc _ _ _ (lt_of_block hu)]; exact hu
  · rw [Below.heap_alloc _ _ _ (lt_of_block hr)]; exact hr
  · show (w1.heap.push _)[_]? = _
    rw [push_new _ _ _ rfl]
    rw [show wrap64 0 = 0 from by unfold wrap64; rfl]
  · rw [Below.heap_alloc _ _ _ (lt_of_block hk)]; exact hk
theorem words48 (w0 w1 : World) (A0 : Option Addr) (n0 c0 : Nat) (A1 : Option Addr) (n1 c1 : Nat) (m U R K : Nat) (q : Int) (wy g f : List Int → Int) (hf : ∀ ws, f ws = if 0 < wy ws then IntKind.i64.wrap (wy ws * g ws) else 0) (hm : m ≤ 6) (hn3 : n0 ≤ 3) (hq0 : 0 ≤ q) (hq1 : q < (n0 : Int))
    (hJ0 : AK w0 (.slice A0 n0 c0) (.slice A1 n1 c1) U R K w1.heap.size q 0 (w1.alloc (.cells #[.int .i64 0] 3))) (hz : w0.heap.size ≤ w1.heap.size) (hU : U < w1.heap.size) (hR : R < w1.heap.size) (hK : K < w1.heap.size)
    (h49 : ∀ (ws : List Int) (Aw : Option Addr) (cw : Nat) (W : World), ws.length = m → (∀ q ∈ ws, 0 ≤ q ∧ q < (n0 : Int)) → Below w0.heap.size w0 W → Kd.C (Kd.int .i64) W Aw ws.length ws → ws.length ≤ cw →
      Calls Try.prog 49 #[.slice A0 n0 c0, .slice A1 n1 c1, .slice Aw ws.length cw] W fun e w' => e = .returned (.int .i64 (wy ws)) ∧ Below W.heap.size W w')
    (h50 : ∀ (ws : List Int) (Aw : Option Addr) (cw : Nat) (W : World), ws.length = m → (∀ q ∈ ws, 0 ≤ q ∧ q < (n0 : Int)) → Below w0.heap.size w0 W → Kd.C (Kd.int .i64) W Aw ws.length ws → ws.length ≤ cw →
      Calls Try.prog 50 #[.slice A0 n0 c0, .slice A1 n1 c1, .slice Aw ws.length cw] W fun e w' => ∃ ad cp, e = .returned (.slice (some ad) n0 cp) ∧ w'.cell? (ad.add q.toNat) = some (.int .i64 (g ws)) ∧ Below W.heap.size W w') :
    Calls Try.prog 47 #[.int .i64 (n0 : Int), .int .i64 (m : Int), .func (.func 48) #[] #[.pointer (some ⟨U, 0, none⟩), .pointer (some ⟨R, 0, none⟩), .pointer (some ⟨w1.heap.size, 0, none⟩), .pointer (some ⟨K, 0, none⟩)]] (w1.alloc (.cells #[.int .i64 0] 3))
      fun e w' => e = .returned (.tuple #[]) ∧ AK w0 (.slice A0 n0 c0) (.slice A1 n1 c1) U R K w1.heap.size q (wsum n0 m f) w' := by
  have hs : (w1.alloc (.cells #[.int .i64 0] 3)).heap.size = w1.heap.size + 1 := by simp
  refine words_calls n0 m 48 Try.f48 Try.func48 (by kernel_rfl) rfl _ (AK w0 (.slice A0 n0 c0) (.slice A1 n1 c1) U R K w1.heap.size q) f _ ?_ ?_ hm hn3 ?_
  · exact tell48 w0 A0 n0 c0 A1 n1 c1 m _ _ _ _ _ q wy g f hf hm hU hR hK (by omega) hz hq0 hq1 h49 h50
  · exact fun s w' i u h => ⟨h.1.far (by show _ ≤ _ + 3; omega) (by show _ ≠ _ + 3; omega) (by show _ ≠ _ + 3; omega) (by show _ ≠ _ + 3; omega) _, (Below.heap_setCell _ _ _ _ (by show _ ≠ _ + 3; omega)).trans h.2⟩
  · exact fun w' hb _ => hJ0.below hb
set_option maxHeartbeats 4000000 in
set_option maxRecDepth 100000 in
theorem ballSum_calls (w0 : World) (A0 : Option Addr) (n0 c0 : Nat) (A1 : Option Addr) (n1 c1 : Nat) (many q : Int) (asked : Bool) (wy g f : List Int → Int) (hf : ∀ ws, f ws = if 0 < wy ws then IntKind.i64.wrap (wy ws * g ws) else 0) (hn3 : asked = true → n0 ≤ 3)
    (h46 : ∀ (W : World), Below w0.heap.size w0 W → Calls Try.prog 46 #[.slice A0 n0 c0, .slice A1 n1 c1] W fun e w' => e = .returned (.bool asked) ∧ Below W.heap.size W w')
    (h49 : asked = true → ∀ (ws : List Int) (Aw : Option Addr) (cw : Nat) (W : World), ws.length = many.toNat → many.toNat ≤ 6 → (∀ q ∈ ws, 0 ≤ q ∧ q < (n0 : Int)) → Below w0.heap.size w0 W → Kd.C (Kd.int .i64) W Aw ws.length ws → ws.length ≤ cw →
      Calls Try.prog 49 #[.slice A0 n0 c0, .slice A1 n1 c1, .slice Aw ws.length cw] W fun e w' => e = .returned (.int .i64 (wy ws)) ∧ Below W.heap.size W w')
    (h50 : asked = true → 0 ≤ q → q < n0 → ∀ (ws : List Int) (Aw : Option Addr) (cw : Nat) (W : World), ws.length = many.toNat → many.toNat ≤ 6 → (∀ q ∈ ws, 0 ≤ q ∧ q < (n0 : Int)) → Below w0.heap.size w0 W → Kd.C (Kd.int .i64) W Aw ws.length ws → ws.length ≤ cw →
      Calls Try.prog 50 #[.slice A0 n0 c0, .slice A1 n1 c1, .slice Aw ws.length cw] W fun e w' => ∃ ad cp, e = .returned (.slice (some ad) n0 cp) ∧ w'.cell? (ad.add q.toNat) = some (.int .i64 (g ws)) ∧ Below W.heap.size W w') :
    Calls Try.prog 14 #[.slice A0 n0 c0, .slice A1 n1 c1, .int .i64 many, .int .i64 q] w0 fun e w' => e = .returned (.int .i64 (if asked = true ∧ (0 ≤ many ∧ many ≤ 6) ∧ 0 ≤ q ∧ q < n0 then wrap64 (wsum n0 many.toNat f) else -1)) ∧ Below w0.heap.size w0 w' := by
  have H46 := Aside0.mk h46
  clear h46
  by_cases hc : asked = true ∧ (0 ≤ many ∧ many ≤ 6) ∧ 0 ≤ q ∧ q < n0
  case neg =>
    rw [if_neg hc]
    clear h49 h50 hn3
    have hq : asked = false ∨ asked = true ∧ many < 0 ∨ asked = true ∧ ¬ many < 0 ∧ 6 < many ∨ asked = true ∧ ¬ many < 0 ∧ ¬ 6 < many ∧ q < 0 ∨ asked = true ∧ ¬ many < 0 ∧ ¬ 6 < many ∧ ¬ q < 0 ∧ (n0 : Int) ≤ q := by
      cases asked with
      | false => exact .inl rfl
      | true => simp at hc; simp; omega
    clear hc
    rcases hq with rfl | ⟨rfl, h1⟩ | ⟨rfl, h1, h2⟩ | ⟨rfl, h1, h2, h3⟩ | ⟨rfl, h1, h2, h3, h4⟩
    all_goals
      go_enter Try.func14, Try.ntmps14
      go_wp2_with (go_at_call 46; refine (H46.out _ ?_).mono ?_; exact (((Below.refl _ _).alloc (Nat.le_refl _) _).alloc (by simp) _).alloc (by simp; omega) _; rintro e w1 ⟨rfl, hB1⟩; have HB1 := Aside0.mk hB1
                   have cU0 := cell_of_one ((hB1.block w0.heap.size (by simp; omega)).trans (boxes3 w0 (.slice A0 n0 c0) (.slice A1 n1 c1) (.int .i64 q)).1)
                   have cK0 := cell_of_one ((hB1.block (w0.heap.size + 1 + 1) (by simp)).trans (boxes3 w0 (.slice A0 n0 c0) (.slice A1 n1 c1) (.int .i64 q)).2.2); clear hB1)
      go_ret
      exact ⟨rfl, ((((Below.refl _ _).alloc (Nat.le_refl _) _).alloc (by simp) _).alloc (by simp; omega) _).trans (HB1.out.mono (by simp; omega))⟩
  case pos =>
    rw [if_pos hc]
    obtain ⟨rfl, ⟨hm0, hm6⟩, hq0, hq1⟩ := hc
    obtain ⟨m, rfl⟩ := Int.eq_ofNat_of_zero_le hm0
    rw [Int.toNat_natCast] at h49 h50 ⊢
    have H49 := Aside0.mk (h49 rfl)
    have H50 := Aside0.mk (h50 rfl hq0 hq1)
    have HF := Aside0.mk hf
    have HM := Aside0.mk (show m ≤ 6 ∧ n0 ≤ 3 ∧ 0 ≤ q ∧ q < (n0 : Int) from ⟨by omega, hn3 rfl, hq0, hq1⟩)
    have g1 : ¬ (m : Int) < 0 := by omega
    have g2 : ¬ 6 < (m : Int) := by omega
    have g3 : ¬ q < 0 := by omega
    have g4 : ¬ (n0 : Int) ≤ q := by omega
    clear h49 h50 hf hn3 hm0 hm6 hq0 hq1
    go_enter Try.func14, Try.ntmps14
    go_wp2_with (first
      | (go_at_call 46; go_loud (
         refine (H46.out _ ?_).mono ?_; exact (((Below.refl _ _).alloc (Nat.le_refl _) _).alloc (by simp) _).alloc (by simp <;> omega) _; rintro e w1 ⟨rfl, hB1⟩
         have hB := ((((Below.refl w0.heap.size w0).alloc (Nat.le_refl _) (.cells #[.slice A0 n0 c0] 23)).alloc (by simp) (.cells #[.slice A1 n1 c1] 24)).alloc (by simp <;> omega) (.cells #[.int .i64 q] 3)).trans (hB1.mono (by simp <;> omega))
         have hbx := boxes3 w0 (.slice A0 n0 c0) (.slice A1 n1 c1) (.int .i64 q)
         have hu := (hB1.block w0.heap.size (by simp <;> omega)).trans hbx.1
         have hr := (hB1.block (w0.heap.size + 1) (by simp <;> omega)).trans hbx.2.1
         have hk := (hB1.block (w0.heap.size + 1 + 1) (by simp)).trans hbx.2.2
         have hJ0 := ak_start hB hu hr hk
         have cU0 := cell_of_one hu
         have cK0 := cell_of_one hk
         have cU1 := cell_of_one hJ0.1.hu
         have HC := Aside0.mk (words48 w0 w1 A0 n0 c0 A1 n1 c1 m _ _ _ q wy g f HF.out HM.out.1 HM.out.2.1 HM.out.2.2.1 HM.out.2.2.2 hJ0 hB.size (lt_of_block hu) (lt_of_block hr) (lt_of_block hk) (fun ws Aw cw W h1 h2 h3 h4 h5 => H49.out ws Aw cw W h1 HM.out.1 h2 h3 h4 h5) (fun ws Aw cw W h1 h2 h3 h4 h5 => H50.out ws Aw cw W h1 HM.out.1 h2 h3 h4 h5))
         clear hB hbx hu hr hk hJ0 hB1))
      | (go_at_call 47
         refine HC.out.mono ?_
         rintro e w2 ⟨rfl, hJ2⟩
         have cN2 := cell_of_one hJ2.1.hn
         have HJ2 := Aside0.mk hJ2
         clear hJ2))
    go_ret
    exact ⟨rfl, HJ2.out.1.hb⟩
end Go.Proofs.Ytdplpbhbacbcmaa.Closure
