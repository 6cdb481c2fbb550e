/-
  No cell of these rows narrows 'for every input' (looked for: loops, veiled, ifaces, maps, wideKeys, modest, calm, conditions, laid).
  DERIVED. THE GIVEN ROWS OF THIS SEAT. 10 by the template 'for every input the law returns true; each argument reads behind the call as it read before'; 0 by the template 'total and deterministic' (their statements: YteeodaggfaebdaaTotals.lean).
  GIVEN WITH THE SEED: the statements are not yours to turn. If you find one false, say at which input.
  Laid BY PROGRAM, IN A SANDBOX (cutbox-rows.mjs): the forced cells as the released guide's own fill.sh prints them over the translation 9224f71d546c0b26… (all of the seat's roots in one cut). By AI agents, Wed Nov 11 2026. No macro, syntax, notation, axiom, sorry.
-/
import Derived.Test.YteeodaggfaebdaaChecked
import GoSem.Claim
import GoSem.ClaimJoined
import GoSem.ClaimMapViews
import Derived.JoinedTies
import Derived.KernelRfl
namespace Go.Proofs.Yteeodaggfaebdaa
/- THE CELL 'sum', in the pinned program and in every row, IS THE sha256 OF THE DUMP (.gsa) THAT YteeodaggfaebdaaProg.lean LOADS. Nothing in Lean hashes anything: it is a label: what it is worth is what the hold of that sum in a sandbox is worth. -/
noncomputable def Try.pinned : Pinned := { name := "yteeodaggfaebdaa", sum := "9224f71d546c0b2686c00ad45818e1975c57bf38228af80223758a335e05824e", checked := Try.checked }
namespace Rows
def none {H : Type} : Left H := { results := [], args := [] }

/-- 'laws.FnExactPutIn': WHATEVER THE INPUT: true; the input reads as it did. -/
def fnExactPutInSpec : ChangeSpec := { name := "fnExactPutIn", fn := fun _ => fun
  | [d1, d2, d3] => { results := [.lit (.bool true)], args := [d1, d2, d3] }
  | _ => none }
def fnExactPutInRow : OpenClaim := { program := "yteeodaggfaebdaa", sum := "9224f71d546c0b2686c00ad45818e1975c57bf38228af80223758a335e05824e", func := "loop.example/urnsandballs/laws.FnExactPutIn", spec := "fnExactPutIn", apart := false }
def FnExactPutInSaid : Prop := fnExactPutInRow.holds Try.pinned (OpenSpec.ofChange fnExactPutInSpec)

/-- ITS FALSE NEIGHBOUR: 'it returns false'. Refute it at one input. -/
def fnExactPutInWrong : ChangeSpec := { name := "fnExactPutIn", fn := fun _ => fun
  | [d1, d2, d3] => { results := [.lit (.bool false)], args := [d1, d2, d3] }
  | _ => none }
def FnExactPutInWrongFalsely : Prop := fnExactPutInRow.holds Try.pinned (OpenSpec.ofChange fnExactPutInWrong)

/-- 'laws.FnExactRuleOk': WHATEVER THE INPUT: true; the input reads as it did. -/
def fnExactRuleOkSpec : ChangeSpec := { name := "fnExactRuleOk", fn := fun _ => fun
  | [d1, d2] => { results := [.lit (.bool true)], args := [d1, d2] }
  | _ => none }
def fnExactRuleOkRow : OpenClaim := { program := "yteeodaggfaebdaa", sum := "9224f71d546c0b2686c00ad45818e1975c57bf38228af80223758a335e05824e", func := "loop.example/urnsandballs/laws.FnExactRuleOk", spec := "fnExactRuleOk", apart := false }
def FnExactRuleOkSaid : Prop := fnExactRuleOkRow.holds Try.pinned (OpenSpec.ofChange fnExactRuleOkSpec)

/-- ITS FALSE NEIGHBOUR: 'it returns false'. Refute it at one input. -/
def fnExactRuleOkWrong : ChangeSpec := { name := "fnExactRuleOk", fn := fun _ => fun
  | [d1, d2] => { results := [.lit (.bool false)], args := [d1, d2] }
  | _ => none }
def FnExactRuleOkWrongFalsely : Prop := fnExactRuleOkRow.holds Try.pinned (OpenSpec.ofChange fnExactRuleOkWrong)

/-- 'laws.FnExactPouredUrn': WHATEVER THE INPUT: true; the input reads as it did. -/
def fnExactPouredUrnSpec : ChangeSpec := { name := "fnExactPouredUrn", fn := fun _ => fun
  | [d1, d2] => { results := [.lit (.bool true)], args := [d1, d2] }
  | _ => none }
def fnExactPouredUrnRow : OpenClaim := { program := "yteeodaggfaebdaa", sum := "9224f71d546c0b2686c00ad45818e1975c57bf38228af80223758a335e05824e", func := "loop.example/urnsandballs/laws.FnExactPouredUrn", spec := "fnExactPouredUrn", apart := false }
def FnExactPouredUrnSaid : Prop := fnExactPouredUrnRow.holds Try.pinned (OpenSpec.ofChange fnExactPouredUrnSpec)

/-- ITS FALSE NEIGHBOUR: 'it returns false'. Refute it at one input. -/
def fnExactPouredUrnWrong : ChangeSpec := { name := "fnExactPouredUrn", fn := fun _ => fun
  | [d1, d2] => { results := [.lit (.bool false)], args := [d1, d2] }
  | _ => none }
def FnExactPouredUrnWrongFalsely : Prop := fnExactPouredUrnRow.holds Try.pinned (OpenSpec.ofChange fnExactPouredUrnWrong)

/-- 'laws.FnPoured': WHATEVER THE INPUT: true; the input reads as it did. -/
def fnPouredSpec : ChangeSpec := { name := "fnPoured", fn := fun _ => fun
  | [d] => { results := [.lit (.bool true)], args := [d] }
  | _ => none }
def fnPouredRow : OpenClaim := { program := "yteeodaggfaebdaa", sum := "9224f71d546c0b2686c00ad45818e1975c57bf38228af80223758a335e05824e", func := "loop.example/urnsandballs/laws.FnPoured", spec := "fnPoured", apart := false }
def FnPouredSaid : Prop := fnPouredRow.holds Try.pinned (OpenSpec.ofChange fnPouredSpec)

/-- ITS FALSE NEIGHBOUR: 'it returns false'. Refute it at one input. -/
def fnPouredWrong : ChangeSpec := { name := "fnPoured", fn := fun _ => fun
  | [d] => { results := [.lit (.bool false)], args := [d] }
  | _ => none }
def FnPouredWrongFalsely : Prop := fnPouredRow.holds Try.pinned (OpenSpec.ofChange fnPouredWrong)

/-- 'laws.FnStartOk': WHATEVER THE INPUT: true; the input reads as it did. -/
def fnStartOkSpec : ChangeSpec := { name := "fnStartOk", fn := fun _ => fun
  | [d] => { results := [.lit (.bool true)], args := [d] }
  | _ => none }
def fnStartOkRow : OpenClaim := { program := "yteeodaggfaebdaa", sum := "9224f71d546c0b2686c00ad45818e1975c57bf38228af80223758a335e05824e", func := "loop.example/urnsandballs/laws.FnStartOk", spec := "fnStartOk", apart := false }
def FnStartOkSaid : Prop := fnStartOkRow.holds Try.pinned (OpenSpec.ofChange fnStartOkSpec)

/-- ITS FALSE NEIGHBOUR: 'it returns false'. Refute it at one input. -/
def fnStartOkWrong : ChangeSpec := { name := "fnStartOk", fn := fun _ => fun
  | [d] => { results := [.lit (.bool false)], args := [d] }
  | _ => none }
def FnStartOkWrongFalsely : Prop := fnStartOkRow.holds Try.pinned (OpenSpec.ofChange fnStartOkWrong)

/-- 'laws.FnTotalOf': WHATEVER THE INPUT: true; the input reads as it did. -/
def fnTotalOfSpec : ChangeSpec := { name := "fnTotalOf", fn := fun _ => fun
  | [d] => { results := [.lit (.bool true)], args := [d] }
  | _ => none }
def fnTotalOfRow : OpenClaim := { program := "yteeodaggfaebdaa", sum := "9224f71d546c0b2686c00ad45818e1975c57bf38228af80223758a335e05824e", func := "loop.example/urnsandballs/laws.FnTotalOf", spec := "fnTotalOf", apart := false }
def FnTotalOfSaid : Prop := fnTotalOfRow.holds Try.pinned (OpenSpec.ofChange fnTotalOfSpec)

/-- ITS FALSE NEIGHBOUR: 'it returns false'. Refute it at one input. -/
def fnTotalOfWrong : ChangeSpec := { name := "fnTotalOf", fn := fun _ => fun
  | [d] => { results := [.lit (.bool false)], args := [d] }
  | _ => none }
def FnTotalOfWrongFalsely : Prop := fnTotalOfRow.holds Try.pinned (OpenSpec.ofChange fnTotalOfWrong)

/-- 'laws.FnSameRule': WHATEVER THE INPUT: true; the input reads as it did. -/
def fnSameRuleSpec : ChangeSpec := { name := "fnSameRule", fn := fun _ => fun
  | [d] => { results := [.lit (.bool true)], args := [d] }
  | _ => none }
def fnSameRuleRow : OpenClaim := { program := "yteeodaggfaebdaa", sum := "9224f71d546c0b2686c00ad45818e1975c57bf38228af80223758a335e05824e", func := "loop.example/urnsandballs/laws.FnSameRule", spec := "fnSameRule", apart := false }
def FnSameRuleSaid : Prop := fnSameRuleRow.holds Try.pinned (OpenSpec.ofChange fnSameRuleSpec)

/-- ITS FALSE NEIGHBOUR: 'it returns false'. Refute it at one input. -/
def fnSameRuleWrong : ChangeSpec := { name := "fnSameRule", fn := fun _ => fun
  | [d] => { results := [.lit (.bool false)], args := [d] }
  | _ => none }
def FnSameRuleWrongFalsely : Prop := fnSameRuleRow.holds Try.pinned (OpenSpec.ofChange fnSameRuleWrong)

/-- 'laws.FnExactWordWays': WHATEVER THE INPUT: true; the input reads as it did. -/
def fnExactWordWaysSpec : ChangeSpec := { name := "fnExactWordWays", fn := fun _ => fun
  | [d1, d2] => { results := [.lit (.bool true)], args := [d1, d2] }
  | _ => none }
def fnExactWordWaysRow : OpenClaim := { program := "yteeodaggfaebdaa", sum := "9224f71d546c0b2686c00ad45818e1975c57bf38228af80223758a335e05824e", func := "loop.example/urnsandballs/laws.FnExactWordWays", spec := "fnExactWordWays", apart := false }
def FnExactWordWaysSaid : Prop := fnExactWordWaysRow.holds Try.pinned (OpenSpec.ofChange fnExactWordWaysSpec)

/-- ITS FALSE NEIGHBOUR: 'it returns false'. Refute it at one input. -/
def fnExactWordWaysWrong : ChangeSpec := { name := "fnExactWordWays", fn := fun _ => fun
  | [d1, d2] => { results := [.lit (.bool false)], args := [d1, d2] }
  | _ => none }
def FnExactWordWaysWrongFalsely : Prop := fnExactWordWaysRow.holds Try.pinned (OpenSpec.ofChange fnExactWordWaysWrong)

/-- 'laws.FnRuleOk': WHATEVER THE INPUT: true; the input reads as it did. -/
def fnRuleOkSpec : ChangeSpec := { name := "fnRuleOk", fn := fun _ => fun
  | [d] => { results := [.lit (.bool true)], args := [d] }
  | _ => none }
def fnRuleOkRow : OpenClaim := { program := "yteeodaggfaebdaa", sum := "9224f71d546c0b2686c00ad45818e1975c57bf38228af80223758a335e05824e", func := "loop.example/urnsandballs/laws.FnRuleOk", spec := "fnRuleOk", apart := false }
def FnRuleOkSaid : Prop := fnRuleOkRow.holds Try.pinned (OpenSpec.ofChange fnRuleOkSpec)

/-- ITS FALSE NEIGHBOUR: 'it returns false'. Refute it at one input. -/
def fnRuleOkWrong : ChangeSpec := { name := "fnRuleOk", fn := fun _ => fun
  | [d] => { results := [.lit (.bool false)], args := [d] }
  | _ => none }
def FnRuleOkWrongFalsely : Prop := fnRuleOkRow.holds Try.pinned (OpenSpec.ofChange fnRuleOkWrong)

/-- 'laws.FnExactEvenRule': WHATEVER THE INPUT: true; the input reads as it did. -/
def fnExactEvenRuleSpec : ChangeSpec := { name := "fnExactEvenRule", fn := fun _ => fun
  | [d1, d2] => { results := [.lit (.bool true)], args := [d1, d2] }
  | _ => none }
def fnExactEvenRuleRow : OpenClaim := { program := "yteeodaggfaebdaa", sum := "9224f71d546c0b2686c00ad45818e1975c57bf38228af80223758a335e05824e", func := "loop.example/urnsandballs/laws.FnExactEvenRule", spec := "fnExactEvenRule", apart := false }
def FnExactEvenRuleSaid : Prop := fnExactEvenRuleRow.holds Try.pinned (OpenSpec.ofChange fnExactEvenRuleSpec)

/-- ITS FALSE NEIGHBOUR: 'it returns false'. Refute it at one input. -/
def fnExactEvenRuleWrong : ChangeSpec := { name := "fnExactEvenRule", fn := fun _ => fun
  | [d1, d2] => { results := [.lit (.bool false)], args := [d1, d2] }
  | _ => none }
def FnExactEvenRuleWrongFalsely : Prop := fnExactEvenRuleRow.holds Try.pinned (OpenSpec.ofChange fnExactEvenRuleWrong)

/- THE SECOND FORM. 'bulk': how many values and letters a reading holds, each counted each time it is reached (what is shared counts as often as it is met; a slice's spare places count too). A statement '..UptoSaid' is the law's where the arguments, and the package variables that the reading takes, are together of bulk at most 1048576: NARROWER than '..Said'. Prove '..Said' where nothing that the law and all that it calls make is longer than what came in: it says more and counts as full. Else prove '..UptoSaid'. A law counts once. -/
mutual
def uptoBulk {H : Type} : DataW H → Nat
  | .lit (.string bytes) => bytes.length + 1
  | .lit _ => 1
  | .nil => 1
  | .ptr d => uptoBulk d + 1
  | .slice elems spare => uptoBulkAll elems + uptoBulkAll spare + 1
  | .agg parts => uptoBulkAll parts + 1
  | .iface _ d => uptoBulk d + 1
  | .map entries => uptoBulkEntries entries + 1
  | .held _ => 1
def uptoBulkAll {H : Type} : List (DataW H) → Nat
  | [] => 0
  | d :: r => uptoBulk d + uptoBulkAll r
def uptoBulkEntries {H : Type} : List (Lit × DataW H) → Nat
  | [] => 0
  | x :: r => uptoBulkEntry x + uptoBulkEntries r
def uptoBulkEntry {H : Type} : Lit × DataW H → Nat
  | (.string bytes, d) => bytes.length + uptoBulk d + 1
  | (_, d) => uptoBulk d + 1
 end
def uptoSmall : (H : Type) → List (DataW H) → Bool := fun _ ds => decide (uptoBulkAll ds ≤ 1048576)
def OpenSpec.upto (s : _root_.Go.ChangeSpec) : _root_.Go.OpenSpec := { _root_.Go.OpenSpec.ofChange s with cond := some uptoSmall }

/-- 'laws.FnExactPutIn', WHERE WHAT IT READS IS OF BULK AT MOST 1048576: true; the input reads as it did. -/
def fnExactPutInUptoRow : OpenClaim := { program := "yteeodaggfaebdaa", sum := "9224f71d546c0b2686c00ad45818e1975c57bf38228af80223758a335e05824e", func := "loop.example/urnsandballs/laws.FnExactPutIn", spec := "fnExactPutIn", apart := false, narrowed := true }
def FnExactPutInUptoSaid : Prop := fnExactPutInUptoRow.holds Try.pinned (OpenSpec.upto fnExactPutInSpec)

/-- 'laws.FnExactRuleOk', WHERE WHAT IT READS IS OF BULK AT MOST 1048576: true; the input reads as it did. -/
def fnExactRuleOkUptoRow : OpenClaim := { program := "yteeodaggfaebdaa", sum := "9224f71d546c0b2686c00ad45818e1975c57bf38228af80223758a335e05824e", func := "loop.example/urnsandballs/laws.FnExactRuleOk", spec := "fnExactRuleOk", apart := false, narrowed := true }
def FnExactRuleOkUptoSaid : Prop := fnExactRuleOkUptoRow.holds Try.pinned (OpenSpec.upto fnExactRuleOkSpec)

/-- 'laws.FnExactPouredUrn', WHERE WHAT IT READS IS OF BULK AT MOST 1048576: true; the input reads as it did. -/
def fnExactPouredUrnUptoRow : OpenClaim := { program := "yteeodaggfaebdaa", sum := "9224f71d546c0b2686c00ad45818e1975c57bf38228af80223758a335e05824e", func := "loop.example/urnsandballs/laws.FnExactPouredUrn", spec := "fnExactPouredUrn", apart := false, narrowed := true }
def FnExactPouredUrnUptoSaid : Prop := fnExactPouredUrnUptoRow.holds Try.pinned (OpenSpec.upto fnExactPouredUrnSpec)

/-- 'laws.FnPoured', WHERE WHAT IT READS IS OF BULK AT MOST 1048576: true; the input reads as it did. -/
def fnPouredUptoRow : OpenClaim := { program := "yteeodaggfaebdaa", sum := "9224f71d546c0b2686c00ad45818e1975c57bf38228af80223758a335e05824e", func := "loop.example/urnsandballs/laws.FnPoured", spec := "fnPoured", apart := false, narrowed := true }
def FnPouredUptoSaid : Prop := fnPouredUptoRow.holds Try.pinned (OpenSpec.upto fnPouredSpec)

/-- 'laws.FnStartOk', WHERE WHAT IT READS IS OF BULK AT MOST 1048576: true; the input reads as it did. -/
def fnStartOkUptoRow : OpenClaim := { program := "yteeodaggfaebdaa", sum := "9224f71d546c0b2686c00ad45818e1975c57bf38228af80223758a335e05824e", func := "loop.example/urnsandballs/laws.FnStartOk", spec := "fnStartOk", apart := false, narrowed := true }
def FnStartOkUptoSaid : Prop := fnStartOkUptoRow.holds Try.pinned (OpenSpec.upto fnStartOkSpec)

/-- 'laws.FnTotalOf', WHERE WHAT IT READS IS OF BULK AT MOST 1048576: true; the input reads as it did. -/
def fnTotalOfUptoRow : OpenClaim := { program := "yteeodaggfaebdaa", sum := "9224f71d546c0b2686c00ad45818e1975c57bf38228af80223758a335e05824e", func := "loop.example/urnsandballs/laws.FnTotalOf", spec := "fnTotalOf", apart := false, narrowed := true }
def FnTotalOfUptoSaid : Prop := fnTotalOfUptoRow.holds Try.pinned (OpenSpec.upto fnTotalOfSpec)

/-- 'laws.FnSameRule', WHERE WHAT IT READS IS OF BULK AT MOST 1048576: true; the input reads as it did. -/
def fnSameRuleUptoRow : OpenClaim := { program := "yteeodaggfaebdaa", sum := "9224f71d546c0b2686c00ad45818e1975c57bf38228af80223758a335e05824e", func := "loop.example/urnsandballs/laws.FnSameRule", spec := "fnSameRule", apart := false, narrowed := true }
def FnSameRuleUptoSaid : Prop := fnSameRuleUptoRow.holds Try.pinned (OpenSpec.upto fnSameRuleSpec)

/-- 'laws.FnExactWordWays', WHERE WHAT IT READS IS OF BULK AT MOST 1048576: true; the input reads as it did. -/
def fnExactWordWaysUptoRow : OpenClaim := { program := "yteeodaggfaebdaa", sum := "9224f71d546c0b2686c00ad45818e1975c57bf38228af80223758a335e05824e", func := "loop.example/urnsandballs/laws.FnExactWordWays", spec := "fnExactWordWays", apart := false, narrowed := true }
def FnExactWordWaysUptoSaid : Prop := fnExactWordWaysUptoRow.holds Try.pinned (OpenSpec.upto fnExactWordWaysSpec)

/-- 'laws.FnRuleOk', WHERE WHAT IT READS IS OF BULK AT MOST 1048576: true; the input reads as it did. -/
def fnRuleOkUptoRow : OpenClaim := { program := "yteeodaggfaebdaa", sum := "9224f71d546c0b2686c00ad45818e1975c57bf38228af80223758a335e05824e", func := "loop.example/urnsandballs/laws.FnRuleOk", spec := "fnRuleOk", apart := false, narrowed := true }
def FnRuleOkUptoSaid : Prop := fnRuleOkUptoRow.holds Try.pinned (OpenSpec.upto fnRuleOkSpec)

/-- 'laws.FnExactEvenRule', WHERE WHAT IT READS IS OF BULK AT MOST 1048576: true; the input reads as it did. -/
def fnExactEvenRuleUptoRow : OpenClaim := { program := "yteeodaggfaebdaa", sum := "9224f71d546c0b2686c00ad45818e1975c57bf38228af80223758a335e05824e", func := "loop.example/urnsandballs/laws.FnExactEvenRule", spec := "fnExactEvenRule", apart := false, narrowed := true }
def FnExactEvenRuleUptoSaid : Prop := fnExactEvenRuleUptoRow.holds Try.pinned (OpenSpec.upto fnExactEvenRuleSpec)

end Rows
end Go.Proofs.Yteeodaggfaebdaa
