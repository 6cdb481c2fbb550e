/- The program's BackCounts. Condition: contracts of the functions that it calls. -/
import Derived.Test.YtdplpbhbacbcmaaClosureF
set_option linter.unusedVariables false
set_option linter.unusedSimpArgs false
namespace Go.Proofs.Ytdplpbhbacbcmaa.Closure
open Go.RowKit Go.Proofs.YtdplpbhbacbcmaaW.PrintWords Go.Proofs.YtdplpbhbacbcmaaW.PrintLast Go.Proofs.YtdplpbhbacbcmaaW.PrintMore Go.Proofs.Ytdplpbhbacbcmaa.Plain
/-- A sum's variable and an urn's, over a world. -/
def AU (w0 : World) (x : Value) (U N : Nat) (s : Int) (w : World) : Prop := AN w0 N s w ∧ w.heap[U]? = some (.cells #[x] 23 (0, 0))
theorem AU.below {w0 w w1 : World} {x : Value} {U N : Nat} {s : Int} (h : AU w0 x U N s w) (hb : Below w.heap.size w w1) : AU w0 x U N s w1 := ⟨h.1.below hb, (hb.block _ (lt_of_block h.2)).trans h.2⟩
set_option maxHeartbeats 4000000 in
set_option maxRecDepth 100000 in
theorem tell74 (w0 : World) (A0 : Option Addr) (n0 c0 m Z U N : Nat) (g : List Int → Int) (hN : w0.heap.size ≤ N) (hU : U ≠ N)
    (h75 : ∀ (ws : List Int) (Aw : Option Addr) (cw : Nat) (W : World), ws.length = m → (∀ q ∈ ws, 0 ≤ q ∧ q < (n0 : Int)) → Below w0.heap.size w0 W → Kd.C (Kd.int .i64) W Aw ws.length ws → ws.length ≤ cw →
      Calls Try.prog 75 #[.slice A0 n0 c0, .slice Aw ws.length cw] W fun e w' => e = .returned (.int .i64 (g ws)) ∧ Below W.heap.size W w') :
    Inner n0 m 74 #[.pointer (some ⟨N, 0, none⟩), .pointer (some ⟨U, 0, none⟩)] Z N (AU w0 (.slice A0 n0 c0) U N) g := by
  intro B ws s w hZ hl hws hC hJ
  subst hl
  have cU := cell_of_one hJ.2
  have cN := cell_of_one hJ.1.hn
  have fN := free_of_one hJ.1.hn
  have HJ := Aside0.mk hJ
  have HC := Aside0.mk hC
  have HN := Aside0.mk (show w0.heap.size ≤ N ∧ U ≠ N from ⟨hN, hU⟩)
  have H75 := Aside0.mk (fun W hb hc => h75 ws (some ⟨B + 3, 0, none⟩) ws.length W rfl hws hb hc (Nat.le_refl _))
  clear hJ hC hws hZ hN hU h75
  go_enter Try.func74, Try.ntmps74
  go_wp2
  go_region_with (go_at_call 75; refine (H75.out _ ?_ ?_).mono ?_; exact HJ.out.1.hb.drew; exact Kd.C_below HC.out (Below.refl _ _).drew; rintro e w1 ⟨rfl, hB1⟩; have HB1 := Aside0.mk ((Below.refl w.heap.size w).drew.trans hB1); have cN1 := cell_of_one (HJ.out.below HB1.out).1.hn; have fN1 := free_of_one (HJ.out.below HB1.out).1.hn; clear hB1)
  all_goals go_end0
  all_goals
    have h1 := HN.out
    have h2 := HJ.out.below HB1.out
    exact ⟨rfl, ⟨h2.1.add h1.1 _, (Below.heap_setCell _ _ _ _ h1.2).trans h2.2⟩, _, _, HB1.out, rfl⟩
theorem box1 (w0 : World) (x : Value) : (w0.alloc (.cells #[x] 23)).heap[w0.heap.size]? = some (.cells #[x] 23 (0, 0)) := by
  show (w0.heap.push _)[_]? = _
  rw [push_new _ _ _ rfl]
set_option maxHeartbeats 4000000 in
set_option maxRecDepth 100000 in
theorem backCounts_calls (w0 : World) (A0 : Option Addr) (n0 c0 : Nat) (A1 : Option Addr) (n1 c1 : Nat) (cts : List Int) (m : Nat) (okU ok : Bool) (g f : List Int → Int) (hf : ∀ ws, f ws = if cntsOf n0 ws = cts then g ws else 0) (hn : ok = true → n1 = n0)
    (h55 : ∀ (W : World), Below w0.heap.size w0 W → Calls Try.prog 55 #[.slice A0 n0 c0] W fun e w' => e = .returned (.bool okU) ∧ Below W.heap.size W w')
    (h30 : ∀ (W : World), Below w0.heap.size w0 W → Calls Try.prog 30 #[.int .i64 (n0 : Int), .slice A1 n1 c1] W fun e w' => e = .returned (.bool ok) ∧ Below W.heap.size W w')
    (hC : Kd.C (Kd.int .i64) w0 A1 n1 cts) (hm : ok = true → m ≤ 6 ∧ n0 ≤ 3) (hA : ok = true → Asks A1 n1 c1 cts m)
    (h75 : okU = true → ok = true → ∀ (ws : List Int) (Aw : Option Addr) (cw : Nat) (W : World), ws.length = m → (∀ q ∈ ws, 0 ≤ q ∧ q < (n0 : Int)) → Below w0.heap.size w0 W → Kd.C (Kd.int .i64) W Aw ws.length ws → ws.length ≤ cw →
      Calls Try.prog 75 #[.slice A0 n0 c0, .slice Aw ws.length cw] W fun e w' => e = .returned (.int .i64 (g ws)) ∧ Below W.heap.size W w') :
    Calls Try.prog 39 #[.slice A0 n0 c0, .slice A1 n1 c1] w0 fun e w' => e = .returned (.int .i64 (if okU = true ∧ ok = true then wrap64 (wsum n0 m f) else -1)) ∧ Below w0.heap.size w0 w' := by
  have H55 := Aside0.mk h55
  have H30 := Aside0.mk h30
  have hb0 : Below w0.heap.size w0 (w0.alloc (.cells #[.slice A0 n0 c0] 23)) := (Below.refl _ _).alloc (Nat.le_refl _) _
  have HB0 := Aside0.mk hb0
  have hbx := box1 w0 (.slice A0 n0 c0)
  have HX := Aside0.mk hbx
  cases okU with
  | false =>
    rw [if_neg (by simp)]
    clear h55 h30 hm hA h75 hC hn hf hb0 hbx
    go_enter Try.func39, Try.ntmps39
    go_wp2_with (go_at_call 55; refine (H55.out _ HB0.out).mono ?_; rintro e w1 ⟨rfl, hB1⟩; have HB1 := Aside0.mk (HB0.out.trans (hB1.mono HB0.out.size)); clear hB1)
    go_ret
    exact ⟨rfl, HB1.out⟩
  | true =>
    cases ok with
    | false =>
      rw [if_neg (by simp)]
      clear h55 h30 hm hA h75 hC hn hf hb0 hbx
      go_enter Try.func39, Try.ntmps39
      go_wp2_with (first
        | (go_at_call 55; refine (H55.out _ HB0.out).mono ?_; rintro e w1 ⟨rfl, hB1⟩; have HB1 := Aside0.mk (HB0.out.trans (hB1.mono HB0.out.size)); have cU1 := cell_of_one ((hB1.block _ (lt_of_block HX.out)).trans HX.out); clear hB1)
        | (go_at_call 30; refine (H30.out _ HB1.out).mono ?_; rintro e w2 ⟨rfl, hB2⟩; have HB2 := Aside0.mk (HB1.out.trans (hB2.mono HB1.out.size)); clear hB2))
      go_ret
      exact ⟨rfl, HB2.out⟩
    | true =>
      rw [if_pos ⟨rfl, rfl⟩]
      obtain rfl := hn rfl
      have HC := Aside0.mk (fun (w2 : World) (hB : Below w0.heap.size w0 w2) (hu : w2.heap[w0.heap.size]? = some (.cells #[.slice A0 n1 c0] 23 (0, 0))) => wordsWith_calls A1 n1 c1 cts m 74 Try.f74 Try.func74 (by kernel_rfl) rfl #[.pointer (some ⟨w2.heap.size, 0, none⟩), .pointer (some ⟨w0.heap.size, 0, none⟩)] w2.heap.size (AU w0 (.slice A0 n1 c0) w0.heap.size w2.heap.size) g f hf (hm rfl).1 (hm rfl).2 (w2.alloc (.cells #[.int .i64 0] 3)) (by simp)
        (fun s w w1 h hb => h.below hb) (fun s w3 p u h hp => ⟨h.1.far (by have := hB.size; simp at hp; omega) (by simp at hp; omega) u, (Below.heap_setCell _ _ _ _ (by have := hB.size; have := lt_of_block hu; simp at hp; omega)).trans h.2⟩) (fun s w h => Kd.C_below hC h.1.hb) (tell74 w0 A0 n1 c0 m _ _ _ g hB.size (by have := lt_of_block hu; omega) (h75 rfl rfl)) (hA rfl) ⟨AN.start hB, by rw [Below.heap_alloc _ _ _ (lt_of_block hu)]; exact hu⟩)
      clear h55 h30 hm hA h75 hC hn hf hb0 hbx
      go_enter Try.func39, Try.ntmps39
      go_wp2_with (first
        | (go_at_call 55; refine (H55.out _ HB0.out).mono ?_; rintro e w1 ⟨rfl, hB1⟩; have HB1 := Aside0.mk (HB0.out.trans (hB1.mono HB0.out.size)); have HX1 := Aside0.mk ((hB1.block _ (lt_of_block HX.out)).trans HX.out); have cU1 := cell_of_one HX1.out; clear hB1)
        | (go_at_call 30; refine (H30.out _ HB1.out).mono ?_; rintro e w2 ⟨rfl, hB2⟩; have HB2 := Aside0.mk (HB1.out.trans (hB2.mono HB1.out.size)); have HX2 := Aside0.mk ((hB2.block _ (lt_of_block HX1.out)).trans HX1.out); clear hB2)
        | (go_at_call 63; refine (HC.out w2 HB2.out HX2.out).mono ?_; rintro e w3 ⟨rfl, hJ2⟩; have HJ2 := Aside0.mk hJ2; have cN2 := cell_of_one hJ2.1.hn; clear hJ2))
      go_ret
      exact ⟨rfl, HJ2.out.1.hb⟩
end Go.Proofs.Ytdplpbhbacbcmaa.Closure
