/- The program's BallSum over 'words': what its teller adds is added over all words. Condition: contracts of the functions that it calls. -/
import Derived.Test.YtdplpbhbacbcmaaClosureB
set_option linter.unusedVariables false
set_option linter.unusedSimpArgs false
namespace Go.Proofs.Ytdplpbhbacbcmaa.Closure
open Go.RowKit Go.Proofs.YtdplpbhbacbcmaaW.PrintWords Go.Proofs.YtdplpbhbacbcmaaW.PrintLast Go.Proofs.YtdplpbhbacbcmaaW.PrintMore Go.Proofs.Ytdplpbhbacbcmaa.Plain
def AK (w0 : World) (x y : Value) (U R K N : Nat) (q : Int) (s : Int) (w : World) : Prop := AJ w0 x y U R N s w ∧ w.heap[K]? = some (.cells #[.int .i64 q] 3 (0, 0))
theorem AK.below {w0 : World} {x y : Value} {U R K N : Nat} {q s : Int} {w w1 : World} (h : AK w0 x y U R K N q s w) (hb : Below w.heap.size w w1) : AK w0 x y U R K N q s w1 := ⟨h.1.below hb, (hb.block _ (lt_of_block h.2)).trans h.2⟩
set_option maxHeartbeats 16000000 in
set_option maxRecDepth 100000 in
theorem tell48 (w0 : World) (A0 : Option Addr) (n0 c0 : Nat) (A1 : Option Addr) (n1 c1 : Nat) (m U R K N B : Nat) (q : Int) (wy g f : List Int → Int) (hf : ∀ ws, f ws = if 0 < wy ws then IntKind.i64.wrap (wy ws * g ws) else 0) (hm : m ≤ 6) (hU : U < N) (hR : R < N) (hK : K < N) (hN : N < B) (hN0 : w0.heap.size ≤ N) (hq0 : 0 ≤ q) (hq1 : q < (n0 : Int))
    (h49 : ∀ (ws : List Int) (Aw : Option Addr) (cw : Nat) (W : World), ws.length = m → (∀ q ∈ ws, 0 ≤ q ∧ q < (n0 : Int)) → Below w0.heap.size w0 W → Kd.C (Kd.int .i64) W Aw ws.length ws → ws.length ≤ cw →
      Calls Try.prog 49 #[.slice A0 n0 c0, .slice A1 n1 c1, .slice Aw ws.length cw] W fun e w' => e = .returned (.int .i64 (wy ws)) ∧ Below W.heap.size W w')
    (h50 : ∀ (ws : List Int) (Aw : Option Addr) (cw : Nat) (W : World), ws.length = m → (∀ q ∈ ws, 0 ≤ q ∧ q < (n0 : Int)) → Below w0.heap.size w0 W → Kd.C (Kd.int .i64) W Aw ws.length ws → ws.length ≤ cw →
      Calls Try.prog 50 #[.slice A0 n0 c0, .slice A1 n1 c1, .slice Aw ws.length cw] W fun e w' => ∃ ad cp, e = .returned (.slice (some ad) n0 cp) ∧ w'.cell? (ad.add q.toNat) = some (.int .i64 (g ws)) ∧ Below W.heap.size W w') :
    Tells n0 m 48 #[.pointer (some ⟨U, 0, none⟩), .pointer (some ⟨R, 0, none⟩), .pointer (some ⟨N, 0, none⟩), .pointer (some ⟨K, 0, none⟩)] B (AK w0 (.slice A0 n0 c0) (.slice A1 n1 c1) U R K N q) f := by
  intro ws s w hws hW hJ
  have hl := hW.hl
  subst hl
  have cU := cell_of_one hJ.1.hu
  have cR := cell_of_one hJ.1.hr
  have HW := Aside0.mk hW
  have HJ := Aside0.mk hJ
  have H49 := Aside0.mk (fun W hb hc => h49 ws (some ⟨B + 3, 0, none⟩) ws.length W rfl hws hb hc (Nat.le_refl _))
  have H50 := Aside0.mk (fun W hb hc => h50 ws (some ⟨B + 3, 0, none⟩) ws.length W rfl hws hb hc (Nat.le_refl _))
  have HN := Aside0.mk (⟨hU, hR, hN, hN0, hm, hK⟩ : U < N ∧ R < N ∧ N < B ∧ w0.heap.size ≤ N ∧ ws.length ≤ 6 ∧ K < N)
  have p0 := eq_true hq0
  have p1 := eq_true hq1
  clear hW hJ h49 h50 hws hU hR hN hN0 hm hK hq0 hq1
  by_cases hp : 0 < wy ws
  · rw [hf, if_pos hp]
    clear hf
    replace hp := eq_true hp
    go_enter Try.func48, Try.ntmps48
    go_wp2_with (go_at_call 49; refine (H49.out _ ?_ ?_).mono ?_; exact HJ.out.1.hb; exact HW.out.reads HN.out.2.2.2.2.1; rintro e w1 ⟨rfl, hB1⟩; have HJ1 := Aside0.mk (HJ.out.below hB1); have HW1 := Aside0.mk (HW.out.below hB1); have cU1 := cell_of_one HJ1.out.1.hu; have cR1 := cell_of_one HJ1.out.1.hr; have cN1 := cell_of_one HJ1.out.1.hn; have fN1 := free_of_one HJ1.out.1.hn; have cK1 := cell_of_one HJ1.out.2; clear hB1)
    go_region_with (go_at_call 50; refine (H50.out _ ?_ ?_).mono ?_; exact HJ1.out.1.hb.drew; exact Kd.C_below (HW1.out.reads HN.out.2.2.2.2.1) (Below.refl _ _).drew; rintro e w2 ⟨ad, cp, rfl, hx, hB2⟩; have HB2 := Aside0.mk hB2; have HJ2 := Aside0.mk (HJ1.out.below ((Below.refl _ _).drew.trans hB2)); have cN2 := cell_of_one HJ2.out.1.hn; have fN2 := free_of_one HJ2.out.1.hn; have cK2 := cell_of_one HJ2.out.2; clear hB2)
    all_goals go_end0
    all_goals
      have h1 := HN.out
      have hb := (Below.refl w1.heap.size w1).drew.trans HB2.out
      exact ⟨rfl, (HW1.out.below hb).far (by show N < B; omega) _, HJ2.out.1.add (by omega) (by omega) (by omega) _, (Below.heap_setCell _ _ _ _ (by show K ≠ N; omega)).trans HJ2.out.2⟩
  · rw [hf, if_neg hp]
    clear hf
    replace hp := eq_false hp
    go_enter Try.func48, Try.ntmps48
    go_wp2_with (go_at_call 49; refine (H49.out _ ?_ ?_).mono ?_; exact HJ.out.1.hb; exact HW.out.reads HN.out.2.2.2.2.1; rintro e w1 ⟨rfl, hB1⟩; have HJ1 := Aside0.mk (HJ.out.below hB1); have HW1 := Aside0.mk (HW.out.below hB1); clear hB1)
    go_end0
    exact ⟨rfl, HW1.out, by rw [Int.add_zero]; exact HJ1.out⟩
end Go.Proofs.Ytdplpbhbacbcmaa.Closure
