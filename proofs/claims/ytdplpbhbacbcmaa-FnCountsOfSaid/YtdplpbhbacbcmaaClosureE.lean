/- The program's wordsWith: what a teller adds for each word with the counts is added for all of them. Condition: contracts of the teller and of the functions that it calls. -/
import Derived.Test.YtdplpbhbacbcmaaClosureB
set_option linter.unusedVariables false
set_option linter.unusedSimpArgs false
namespace Go.Proofs.Ytdplpbhbacbcmaa.Closure
open Go.RowKit Go.Proofs.YtdplpbhbacbcmaaW.PrintWords Go.Proofs.YtdplpbhbacbcmaaW.PrintLast Go.Proofs.YtdplpbhbacbcmaaW.PrintMore Go.Proofs.Ytdplpbhbacbcmaa.Plain
/-- What a teller behind wordsWith keeps: it makes memory, and writes one variable. -/
def Inner (n0 m G : Nat) (capG : Array Value) (Z N : Nat) (J : Int → World → Prop) (g : List Int → Int) : Prop :=
  ∀ (B : Nat) (ws : List Int) (s : Int) (w : World), Z ≤ B → ws.length = m → (∀ q ∈ ws, 0 ≤ q ∧ q < (n0 : Int)) → Kd.C (Kd.int .i64) w (some ⟨B + 3, 0, none⟩) ws.length ws → J s w →
    Calls Try.prog G (#[.slice (some ⟨B + 3, 0, none⟩) m m] ++ capG) w fun e w' => e = .returned (.tuple #[]) ∧ J (s + g ws) w' ∧ ∃ w1 u, Below w.heap.size w w1 ∧ w' = w1.setCell ⟨N, 0, none⟩ u
/-- The boxes of wordsWith. -/
def JW (J : Int → World → Prop) (C T : Nat) (x t : Value) (s : Int) (w : World) : Prop := J s w ∧ w.heap[C]? = some (.cells #[x] 23 (0, 0)) ∧ w.heap[T]? = some (.cells #[t] 62 (0, 0))
theorem JW.below {J : Int → World → Prop} {C T : Nat} {x t : Value} {s : Int} {w w1 : World} (hJ : ∀ s w w1, J s w → Below w.heap.size w w1 → J s w1) (h : JW J C T x t s w) (hb : Below w.heap.size w w1) : JW J C T x t s w1 :=
  ⟨hJ _ _ _ h.1 hb, (hb.block _ (lt_of_block h.2.1)).trans h.2.1, (hb.block _ (lt_of_block h.2.2)).trans h.2.2⟩
theorem cell_fn {w : World} {b : Nat} {v : Value} {t : TypeId} (h : w.heap[b]? = some (.cells #[v] t (0, 0))) : w.cell? ⟨b, 0, none⟩ = some v := cell_of_one h
set_option maxHeartbeats 8000000 in
set_option maxRecDepth 100000 in
theorem tell84 (A0 : Option Addr) (n0 c0 : Nat) (cts : List Int) (m G : Nat) (fn : Func) (hF : Try.prog.funcs[G]? = some fn) (hname : (fn.name == "runtime.NumGoroutine") = false) (hb : fn.body.isSome = true) (capG : Array Value) (Z N B : Nat) (J : Int → World → Prop) (g f : List Int → Int)
    (hf : ∀ ws, f ws = if cntsOf n0 ws = cts then g ws else 0) (hm : m ≤ 6) (hZ : Z ≤ B) (hN : N < Z) (hCB : Z + 1 < B)
    (hJb : ∀ s w w1, J s w → Below w.heap.size w w1 → J s w1) (hJC : ∀ s w, J s w → Kd.C (Kd.int .i64) w A0 n0 cts)
    (hG : Inner n0 m G capG Z N J g)
    (h32 : ∀ (ws : List Int) (Aw : Option Addr) (cw : Nat) (W : World), ws.length = m → (∀ q ∈ ws, 0 ≤ q ∧ q < (n0 : Int)) → Kd.C (Kd.int .i64) W Aw ws.length ws → ws.length ≤ cw →
      Calls Try.prog 32 #[.int .i64 (n0 : Int), .slice Aw ws.length cw] W fun e w' => ∃ A c, e = .returned (.slice A n0 c) ∧ n0 ≤ c ∧ Kd.C (Kd.int .i64) w' A n0 (cntsOf n0 ws) ∧ Below W.heap.size W w')
    (h85 : ∀ (xs : List Int) (A : Option Addr) (c : Nat) (W : World), xs.length = n0 → Kd.C (Kd.int .i64) W A n0 xs → n0 ≤ c → Kd.C (Kd.int .i64) W A0 n0 cts →
      Calls Try.prog 85 #[.slice A n0 c, .slice A0 n0 c0] W fun e w' => e = .returned (.bool (decide (xs = cts))) ∧ Below W.heap.size W w') :
    Tells n0 m 84 #[.pointer (some ⟨Z, 0, none⟩), .pointer (some ⟨Z + 1, 0, none⟩)] B (JW J Z (Z + 1) (.slice A0 n0 c0) (.func (.func G) #[] capG)) f := by
  intro ws s w hws hW hJ
  have hl := hW.hl
  subst hl
  have cC := cell_of_one hJ.2.1
  have cT := cell_of_one hJ.2.2
  have HW := Aside0.mk hW
  have HJ := Aside0.mk hJ
  have HJb := Aside0.mk hJb
  have HJC := Aside0.mk hJC
  have HG := Aside0.mk (fun s w hc hj => hG B ws s w hZ rfl hws hc hj)
  have H32 := Aside0.mk (fun W hc => h32 ws (some ⟨B + 3, 0, none⟩) ws.length W rfl hws hc (Nat.le_refl _))
  have H85 := Aside0.mk (fun A c W h1 h2 h3 => h85 (cntsOf n0 ws) A c W (cntsOf_length n0 ws) h1 h2 h3)
  have HN := Aside0.mk (⟨hm, hZ, hN, hCB⟩ : ws.length ≤ 6 ∧ Z ≤ B ∧ N < Z ∧ Z + 1 < B)
  have hf1 := hf ws
  clear hW hJ hJb hJC hG h32 h85 hws hm hZ hN hCB hf
  by_cases hp : cntsOf n0 ws = cts
  · rw [if_pos hp] at hf1
    rw [hf1]
    have hd : decide (cntsOf n0 ws = cts) = true := decide_eq_true hp
    have hen : ∀ (args : Array Value) (w : World), (callFunc G args).run Try.prog w = .ok (.enter G args) w := fun args w => enters_ hF hname hb args w
    clear hF hname hb hf1 hp
    go_enter Try.func84, Try.ntmps84
    go_wp2
    go_region_with (first
      | (go_at_call 32; refine (H32.out _ ?_).mono ?_; exact Kd.C_below (HW.out.reads HN.out.1) (Below.refl _ _).drew; rintro e w1 ⟨A, cA, rfl, hcA, hCA, hB1⟩; have HB1 := Aside0.mk ((Below.refl w.heap.size w).drew.trans hB1); have HCA := Aside0.mk hCA; have HcA := Aside0.mk hcA; have cC1 := cell_of_one (HJ.out.below HJb.out HB1.out).2.1; clear hB1 hCA hcA)
      | (go_at_call 85; refine (H85.out _ _ _ HCA.out HcA.out (HJC.out _ _ (HJb.out _ _ _ HJ.out.1 HB1.out))).mono ?_; rintro e w2 ⟨rfl, hB2⟩; have HB2 := Aside0.mk (HB1.out.trans (hB2.mono HB1.out.size)); clear hB2))
    all_goals
      have HJ2 := Aside0.mk (HJ.out.below HJb.out HB2.out)
      have HW2 := Aside0.mk (HW.out.below HB2.out)
      have cT2 := cell_of_one HJ2.out.2.2
      go_wp2_with (refine (HG.out s _ (HW2.out.reads HN.out.1) HJ2.out.1).mono ?_; rintro e w3 ⟨rfl, hJ3, wq, u, hBq, rfl⟩; have HJ3 := Aside0.mk hJ3; have HBq := Aside0.mk hBq; clear hJ3 hBq)
      go_end0
      have hN := HN.out
      exact ⟨rfl, (HW2.out.below HBq.out).far (by show N < B; omega) _, HJ3.out, (Below.heap_setCell _ _ _ _ (by show Z ≠ N; omega)).trans (HJ2.out.below HJb.out HBq.out).2.1, (Below.heap_setCell _ _ _ _ (by show Z + 1 ≠ N; omega)).trans (HJ2.out.below HJb.out HBq.out).2.2⟩
  · rw [if_neg hp] at hf1
    rw [hf1]
    have hd : decide (cntsOf n0 ws = cts) = false := decide_eq_false hp
    clear hF hname hb hf1 hp
    go_enter Try.func84, Try.ntmps84
    go_wp2
    go_region_with (first
      | (go_at_call 32; refine (H32.out _ ?_).mono ?_; exact Kd.C_below (HW.out.reads HN.out.1) (Below.refl _ _).drew; rintro e w1 ⟨A, cA, rfl, hcA, hCA, hB1⟩; have HB1 := Aside0.mk ((Below.refl w.heap.size w).drew.trans hB1); have HCA := Aside0.mk hCA; have HcA := Aside0.mk hcA; have cC1 := cell_of_one (HJ.out.below HJb.out HB1.out).2.1; clear hB1 hCA hcA)
      | (go_at_call 85; refine (H85.out _ _ _ HCA.out HcA.out (HJC.out _ _ (HJb.out _ _ _ HJ.out.1 HB1.out))).mono ?_; rintro e w2 ⟨rfl, hB2⟩; have HB2 := Aside0.mk (HB1.out.trans (hB2.mono HB1.out.size)); clear hB2))
    all_goals
      go_wp2
      go_end0
      exact ⟨rfl, HW.out.below HB2.out, by rw [Int.add_zero]; exact HJ.out.below HJb.out HB2.out⟩
end Go.Proofs.Ytdplpbhbacbcmaa.Closure
