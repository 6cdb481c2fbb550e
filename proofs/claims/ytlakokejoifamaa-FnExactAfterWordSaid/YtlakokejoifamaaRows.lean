/-
  No cell of these rows narrows 'for every input' (looked for: loops, veiled, ifaces, maps, wideKeys, modest, calm, conditions, laid).
  DERIVED. THE GIVEN ROWS OF THIS SEAT. 10 by the template 'for every input the law returns true; each argument reads behind the call as it read before'; 0 by the template 'total and deterministic' (their statements: YtlakokejoifamaaTotals.lean).
  GIVEN WITH THE SEED: the statements are not yours to turn. If you find one false, say at which input.
  Laid BY PROGRAM, IN A SANDBOX (cutbox-rows.mjs): the forced cells as the released guide's own fill.sh prints them over the translation 37ad7be0b75ec50d… (all of the seat's roots in one cut). By AI agents, Wed Nov 11 2026. No macro, syntax, notation, axiom, sorry.
-/
import Derived.Test.YtlakokejoifamaaChecked
import GoSem.Claim
import GoSem.ClaimJoined
import GoSem.ClaimMapViews
import Derived.JoinedTies
import Derived.KernelRfl
namespace Go.Proofs.Ytlakokejoifamaa
/- THE CELL 'sum', in the pinned program and in every row, IS THE sha256 OF THE DUMP (.gsa) THAT YtlakokejoifamaaProg.lean LOADS. Nothing in Lean hashes anything: it is a label: what it is worth is what the hold of that sum in a sandbox is worth. -/
noncomputable def Try.pinned : Pinned := { name := "ytlakokejoifamaa", sum := "37ad7be0b75ec50d72d6cd211c80d6c7f2197df9363dc45fd275f48a3f27eba8", checked := Try.checked }
namespace Rows
def none {H : Type} : Left H := { results := [], args := [] }

/-- 'laws.FnPutIn': WHATEVER THE INPUT: true; the input reads as it did. -/
def fnPutInSpec : ChangeSpec := { name := "fnPutIn", fn := fun _ => fun
  | [d] => { results := [.lit (.bool true)], args := [d] }
  | _ => none }
def fnPutInRow : OpenClaim := { program := "ytlakokejoifamaa", sum := "37ad7be0b75ec50d72d6cd211c80d6c7f2197df9363dc45fd275f48a3f27eba8", func := "loop.example/urnsandballs/laws.FnPutIn", spec := "fnPutIn", apart := false }
def FnPutInSaid : Prop := fnPutInRow.holds Try.pinned (OpenSpec.ofChange fnPutInSpec)

/-- ITS FALSE NEIGHBOUR: 'it returns false'. Refute it at one input. -/
def fnPutInWrong : ChangeSpec := { name := "fnPutIn", fn := fun _ => fun
  | [d] => { results := [.lit (.bool false)], args := [d] }
  | _ => none }
def FnPutInWrongFalsely : Prop := fnPutInRow.holds Try.pinned (OpenSpec.ofChange fnPutInWrong)

/-- 'laws.FnEvenRule': WHATEVER THE INPUT: true; the input reads as it did. -/
def fnEvenRuleSpec : ChangeSpec := { name := "fnEvenRule", fn := fun _ => fun
  | [d] => { results := [.lit (.bool true)], args := [d] }
  | _ => none }
def fnEvenRuleRow : OpenClaim := { program := "ytlakokejoifamaa", sum := "37ad7be0b75ec50d72d6cd211c80d6c7f2197df9363dc45fd275f48a3f27eba8", func := "loop.example/urnsandballs/laws.FnEvenRule", spec := "fnEvenRule", apart := false }
def FnEvenRuleSaid : Prop := fnEvenRuleRow.holds Try.pinned (OpenSpec.ofChange fnEvenRuleSpec)

/-- ITS FALSE NEIGHBOUR: 'it returns false'. Refute it at one input. -/
def fnEvenRuleWrong : ChangeSpec := { name := "fnEvenRule", fn := fun _ => fun
  | [d] => { results := [.lit (.bool false)], args := [d] }
  | _ => none }
def FnEvenRuleWrongFalsely : Prop := fnEvenRuleRow.holds Try.pinned (OpenSpec.ofChange fnEvenRuleWrong)

/-- 'laws.FnPouredUrn': WHATEVER THE INPUT: true; the input reads as it did. -/
def fnPouredUrnSpec : ChangeSpec := { name := "fnPouredUrn", fn := fun _ => fun
  | [d] => { results := [.lit (.bool true)], args := [d] }
  | _ => none }
def fnPouredUrnRow : OpenClaim := { program := "ytlakokejoifamaa", sum := "37ad7be0b75ec50d72d6cd211c80d6c7f2197df9363dc45fd275f48a3f27eba8", func := "loop.example/urnsandballs/laws.FnPouredUrn", spec := "fnPouredUrn", apart := false }
def FnPouredUrnSaid : Prop := fnPouredUrnRow.holds Try.pinned (OpenSpec.ofChange fnPouredUrnSpec)

/-- ITS FALSE NEIGHBOUR: 'it returns false'. Refute it at one input. -/
def fnPouredUrnWrong : ChangeSpec := { name := "fnPouredUrn", fn := fun _ => fun
  | [d] => { results := [.lit (.bool false)], args := [d] }
  | _ => none }
def FnPouredUrnWrongFalsely : Prop := fnPouredUrnRow.holds Try.pinned (OpenSpec.ofChange fnPouredUrnWrong)

/-- 'laws.FnChanceOf': WHATEVER THE INPUT: true; the input reads as it did. -/
def fnChanceOfSpec : ChangeSpec := { name := "fnChanceOf", fn := fun _ => fun
  | [d] => { results := [.lit (.bool true)], args := [d] }
  | _ => none }
def fnChanceOfRow : OpenClaim := { program := "ytlakokejoifamaa", sum := "37ad7be0b75ec50d72d6cd211c80d6c7f2197df9363dc45fd275f48a3f27eba8", func := "loop.example/urnsandballs/laws.FnChanceOf", spec := "fnChanceOf", apart := false }
def FnChanceOfSaid : Prop := fnChanceOfRow.holds Try.pinned (OpenSpec.ofChange fnChanceOfSpec)

/-- ITS FALSE NEIGHBOUR: 'it returns false'. Refute it at one input. -/
def fnChanceOfWrong : ChangeSpec := { name := "fnChanceOf", fn := fun _ => fun
  | [d] => { results := [.lit (.bool false)], args := [d] }
  | _ => none }
def FnChanceOfWrongFalsely : Prop := fnChanceOfRow.holds Try.pinned (OpenSpec.ofChange fnChanceOfWrong)

/-- 'laws.FnBackAll': WHATEVER THE INPUT: true; the input reads as it did. -/
def fnBackAllSpec : ChangeSpec := { name := "fnBackAll", fn := fun _ => fun
  | [d] => { results := [.lit (.bool true)], args := [d] }
  | _ => none }
def fnBackAllRow : OpenClaim := { program := "ytlakokejoifamaa", sum := "37ad7be0b75ec50d72d6cd211c80d6c7f2197df9363dc45fd275f48a3f27eba8", func := "loop.example/urnsandballs/laws.FnBackAll", spec := "fnBackAll", apart := false }
def FnBackAllSaid : Prop := fnBackAllRow.holds Try.pinned (OpenSpec.ofChange fnBackAllSpec)

/-- ITS FALSE NEIGHBOUR: 'it returns false'. Refute it at one input. -/
def fnBackAllWrong : ChangeSpec := { name := "fnBackAll", fn := fun _ => fun
  | [d] => { results := [.lit (.bool false)], args := [d] }
  | _ => none }
def FnBackAllWrongFalsely : Prop := fnBackAllRow.holds Try.pinned (OpenSpec.ofChange fnBackAllWrong)

/-- 'laws.FnAnyPlace': WHATEVER THE INPUT: true; the input reads as it did. -/
def fnAnyPlaceSpec : ChangeSpec := { name := "fnAnyPlace", fn := fun _ => fun
  | [d] => { results := [.lit (.bool true)], args := [d] }
  | _ => none }
def fnAnyPlaceRow : OpenClaim := { program := "ytlakokejoifamaa", sum := "37ad7be0b75ec50d72d6cd211c80d6c7f2197df9363dc45fd275f48a3f27eba8", func := "loop.example/urnsandballs/laws.FnAnyPlace", spec := "fnAnyPlace", apart := false }
def FnAnyPlaceSaid : Prop := fnAnyPlaceRow.holds Try.pinned (OpenSpec.ofChange fnAnyPlaceSpec)

/-- ITS FALSE NEIGHBOUR: 'it returns false'. Refute it at one input. -/
def fnAnyPlaceWrong : ChangeSpec := { name := "fnAnyPlace", fn := fun _ => fun
  | [d] => { results := [.lit (.bool false)], args := [d] }
  | _ => none }
def FnAnyPlaceWrongFalsely : Prop := fnAnyPlaceRow.holds Try.pinned (OpenSpec.ofChange fnAnyPlaceWrong)

/-- 'laws.FnSameApart': WHATEVER THE INPUT: true; the input reads as it did. -/
def fnSameApartSpec : ChangeSpec := { name := "fnSameApart", fn := fun _ => fun
  | [d] => { results := [.lit (.bool true)], args := [d] }
  | _ => none }
def fnSameApartRow : OpenClaim := { program := "ytlakokejoifamaa", sum := "37ad7be0b75ec50d72d6cd211c80d6c7f2197df9363dc45fd275f48a3f27eba8", func := "loop.example/urnsandballs/laws.FnSameApart", spec := "fnSameApart", apart := false }
def FnSameApartSaid : Prop := fnSameApartRow.holds Try.pinned (OpenSpec.ofChange fnSameApartSpec)

/-- ITS FALSE NEIGHBOUR: 'it returns false'. Refute it at one input. -/
def fnSameApartWrong : ChangeSpec := { name := "fnSameApart", fn := fun _ => fun
  | [d] => { results := [.lit (.bool false)], args := [d] }
  | _ => none }
def FnSameApartWrongFalsely : Prop := fnSameApartRow.holds Try.pinned (OpenSpec.ofChange fnSameApartWrong)

/-- 'laws.FnBackWays': WHATEVER THE INPUT: true; the input reads as it did. -/
def fnBackWaysSpec : ChangeSpec := { name := "fnBackWays", fn := fun _ => fun
  | [d] => { results := [.lit (.bool true)], args := [d] }
  | _ => none }
def fnBackWaysRow : OpenClaim := { program := "ytlakokejoifamaa", sum := "37ad7be0b75ec50d72d6cd211c80d6c7f2197df9363dc45fd275f48a3f27eba8", func := "loop.example/urnsandballs/laws.FnBackWays", spec := "fnBackWays", apart := false }
def FnBackWaysSaid : Prop := fnBackWaysRow.holds Try.pinned (OpenSpec.ofChange fnBackWaysSpec)

/-- ITS FALSE NEIGHBOUR: 'it returns false'. Refute it at one input. -/
def fnBackWaysWrong : ChangeSpec := { name := "fnBackWays", fn := fun _ => fun
  | [d] => { results := [.lit (.bool false)], args := [d] }
  | _ => none }
def FnBackWaysWrongFalsely : Prop := fnBackWaysRow.holds Try.pinned (OpenSpec.ofChange fnBackWaysWrong)

/-- 'laws.FnExactRuleWays': WHATEVER THE INPUT: true; the input reads as it did. -/
def fnExactRuleWaysSpec : ChangeSpec := { name := "fnExactRuleWays", fn := fun _ => fun
  | [d1, d2, d3] => { results := [.lit (.bool true)], args := [d1, d2, d3] }
  | _ => none }
def fnExactRuleWaysRow : OpenClaim := { program := "ytlakokejoifamaa", sum := "37ad7be0b75ec50d72d6cd211c80d6c7f2197df9363dc45fd275f48a3f27eba8", func := "loop.example/urnsandballs/laws.FnExactRuleWays", spec := "fnExactRuleWays", apart := false }
def FnExactRuleWaysSaid : Prop := fnExactRuleWaysRow.holds Try.pinned (OpenSpec.ofChange fnExactRuleWaysSpec)

/-- ITS FALSE NEIGHBOUR: 'it returns false'. Refute it at one input. -/
def fnExactRuleWaysWrong : ChangeSpec := { name := "fnExactRuleWays", fn := fun _ => fun
  | [d1, d2, d3] => { results := [.lit (.bool false)], args := [d1, d2, d3] }
  | _ => none }
def FnExactRuleWaysWrongFalsely : Prop := fnExactRuleWaysRow.holds Try.pinned (OpenSpec.ofChange fnExactRuleWaysWrong)

/-- 'laws.FnExactAfterWord': WHATEVER THE INPUT: true; the input reads as it did. -/
def fnExactAfterWordSpec : ChangeSpec := { name := "fnExactAfterWord", fn := fun _ => fun
  | [d1, d2, d3] => { results := [.lit (.bool true)], args := [d1, d2, d3] }
  | _ => none }
def fnExactAfterWordRow : OpenClaim := { program := "ytlakokejoifamaa", sum := "37ad7be0b75ec50d72d6cd211c80d6c7f2197df9363dc45fd275f48a3f27eba8", func := "loop.example/urnsandballs/laws.FnExactAfterWord", spec := "fnExactAfterWord", apart := false }
def FnExactAfterWordSaid : Prop := fnExactAfterWordRow.holds Try.pinned (OpenSpec.ofChange fnExactAfterWordSpec)

/-- ITS FALSE NEIGHBOUR: 'it returns false'. Refute it at one input. -/
def fnExactAfterWordWrong : ChangeSpec := { name := "fnExactAfterWord", fn := fun _ => fun
  | [d1, d2, d3] => { results := [.lit (.bool false)], args := [d1, d2, d3] }
  | _ => none }
def FnExactAfterWordWrongFalsely : Prop := fnExactAfterWordRow.holds Try.pinned (OpenSpec.ofChange fnExactAfterWordWrong)

/- THE SECOND FORM. 'bulk': how many values and letters a reading holds, each counted each time it is reached (what is shared counts as often as it is met; a slice's spare places count too). A statement '..UptoSaid' is the law's where the arguments, and the package variables that the reading takes, are together of bulk at most 1048576: NARROWER than '..Said'. Prove '..Said' where nothing that the law and all that it calls make is longer than what came in: it says more and counts as full. Else prove '..UptoSaid'. A law counts once. -/
mutual
def uptoBulk {H : Type} : DataW H → Nat
  | .lit (.string bytes) => bytes.length + 1
  | .lit _ => 1
  | .nil => 1
  | .ptr d => uptoBulk d + 1
  | .slice elems spare => uptoBulkAll elems + uptoBulkAll spare + 1
  | .agg parts => uptoBulkAll parts + 1
  | .iface _ d => uptoBulk d + 1
  | .map entries => uptoBulkEntries entries + 1
  | .held _ => 1
def uptoBulkAll {H : Type} : List (DataW H) → Nat
  | [] => 0
  | d :: r => uptoBulk d + uptoBulkAll r
def uptoBulkEntries {H : Type} : List (Lit × DataW H) → Nat
  | [] => 0
  | x :: r => uptoBulkEntry x + uptoBulkEntries r
def uptoBulkEntry {H : Type} : Lit × DataW H → Nat
  | (.string bytes, d) => bytes.length + uptoBulk d + 1
  | (_, d) => uptoBulk d + 1
 end
def uptoSmall : (H : Type) → List (DataW H) → Bool := fun _ ds => decide (uptoBulkAll ds ≤ 1048576)
def OpenSpec.upto (s : _root_.Go.ChangeSpec) : _root_.Go.OpenSpec := { _root_.Go.OpenSpec.ofChange s with cond := some uptoSmall }

/-- 'laws.FnPutIn', WHERE WHAT IT READS IS OF BULK AT MOST 1048576: true; the input reads as it did. -/
def fnPutInUptoRow : OpenClaim := { program := "ytlakokejoifamaa", sum := "37ad7be0b75ec50d72d6cd211c80d6c7f2197df9363dc45fd275f48a3f27eba8", func := "loop.example/urnsandballs/laws.FnPutIn", spec := "fnPutIn", apart := false, narrowed := true }
def FnPutInUptoSaid : Prop := fnPutInUptoRow.holds Try.pinned (OpenSpec.upto fnPutInSpec)

/-- 'laws.FnEvenRule', WHERE WHAT IT READS IS OF BULK AT MOST 1048576: true; the input reads as it did. -/
def fnEvenRuleUptoRow : OpenClaim := { program := "ytlakokejoifamaa", sum := "37ad7be0b75ec50d72d6cd211c80d6c7f2197df9363dc45fd275f48a3f27eba8", func := "loop.example/urnsandballs/laws.FnEvenRule", spec := "fnEvenRule", apart := false, narrowed := true }
def FnEvenRuleUptoSaid : Prop := fnEvenRuleUptoRow.holds Try.pinned (OpenSpec.upto fnEvenRuleSpec)

/-- 'laws.FnPouredUrn', WHERE WHAT IT READS IS OF BULK AT MOST 1048576: true; the input reads as it did. -/
def fnPouredUrnUptoRow : OpenClaim := { program := "ytlakokejoifamaa", sum := "37ad7be0b75ec50d72d6cd211c80d6c7f2197df9363dc45fd275f48a3f27eba8", func := "loop.example/urnsandballs/laws.FnPouredUrn", spec := "fnPouredUrn", apart := false, narrowed := true }
def FnPouredUrnUptoSaid : Prop := fnPouredUrnUptoRow.holds Try.pinned (OpenSpec.upto fnPouredUrnSpec)

/-- 'laws.FnChanceOf', WHERE WHAT IT READS IS OF BULK AT MOST 1048576: true; the input reads as it did. -/
def fnChanceOfUptoRow : OpenClaim := { program := "ytlakokejoifamaa", sum := "37ad7be0b75ec50d72d6cd211c80d6c7f2197df9363dc45fd275f48a3f27eba8", func := "loop.example/urnsandballs/laws.FnChanceOf", spec := "fnChanceOf", apart := false, narrowed := true }
def FnChanceOfUptoSaid : Prop := fnChanceOfUptoRow.holds Try.pinned (OpenSpec.upto fnChanceOfSpec)

/-- 'laws.FnBackAll', WHERE WHAT IT READS IS OF BULK AT MOST 1048576: true; the input reads as it did. -/
def fnBackAllUptoRow : OpenClaim := { program := "ytlakokejoifamaa", sum := "37ad7be0b75ec50d72d6cd211c80d6c7f2197df9363dc45fd275f48a3f27eba8", func := "loop.example/urnsandballs/laws.FnBackAll", spec := "fnBackAll", apart := false, narrowed := true }
def FnBackAllUptoSaid : Prop := fnBackAllUptoRow.holds Try.pinned (OpenSpec.upto fnBackAllSpec)

/-- 'laws.FnAnyPlace', WHERE WHAT IT READS IS OF BULK AT MOST 1048576: true; the input reads as it did. -/
def fnAnyPlaceUptoRow : OpenClaim := { program := "ytlakokejoifamaa", sum := "37ad7be0b75ec50d72d6cd211c80d6c7f2197df9363dc45fd275f48a3f27eba8", func := "loop.example/urnsandballs/laws.FnAnyPlace", spec := "fnAnyPlace", apart := false, narrowed := true }
def FnAnyPlaceUptoSaid : Prop := fnAnyPlaceUptoRow.holds Try.pinned (OpenSpec.upto fnAnyPlaceSpec)

/-- 'laws.FnSameApart', WHERE WHAT IT READS IS OF BULK AT MOST 1048576: true; the input reads as it did. -/
def fnSameApartUptoRow : OpenClaim := { program := "ytlakokejoifamaa", sum := "37ad7be0b75ec50d72d6cd211c80d6c7f2197df9363dc45fd275f48a3f27eba8", func := "loop.example/urnsandballs/laws.FnSameApart", spec := "fnSameApart", apart := false, narrowed := true }
def FnSameApartUptoSaid : Prop := fnSameApartUptoRow.holds Try.pinned (OpenSpec.upto fnSameApartSpec)

/-- 'laws.FnBackWays', WHERE WHAT IT READS IS OF BULK AT MOST 1048576: true; the input reads as it did. -/
def fnBackWaysUptoRow : OpenClaim := { program := "ytlakokejoifamaa", sum := "37ad7be0b75ec50d72d6cd211c80d6c7f2197df9363dc45fd275f48a3f27eba8", func := "loop.example/urnsandballs/laws.FnBackWays", spec := "fnBackWays", apart := false, narrowed := true }
def FnBackWaysUptoSaid : Prop := fnBackWaysUptoRow.holds Try.pinned (OpenSpec.upto fnBackWaysSpec)

/-- 'laws.FnExactRuleWays', WHERE WHAT IT READS IS OF BULK AT MOST 1048576: true; the input reads as it did. -/
def fnExactRuleWaysUptoRow : OpenClaim := { program := "ytlakokejoifamaa", sum := "37ad7be0b75ec50d72d6cd211c80d6c7f2197df9363dc45fd275f48a3f27eba8", func := "loop.example/urnsandballs/laws.FnExactRuleWays", spec := "fnExactRuleWays", apart := false, narrowed := true }
def FnExactRuleWaysUptoSaid : Prop := fnExactRuleWaysUptoRow.holds Try.pinned (OpenSpec.upto fnExactRuleWaysSpec)

/-- 'laws.FnExactAfterWord', WHERE WHAT IT READS IS OF BULK AT MOST 1048576: true; the input reads as it did. -/
def fnExactAfterWordUptoRow : OpenClaim := { program := "ytlakokejoifamaa", sum := "37ad7be0b75ec50d72d6cd211c80d6c7f2197df9363dc45fd275f48a3f27eba8", func := "loop.example/urnsandballs/laws.FnExactAfterWord", spec := "fnExactAfterWord", apart := false, narrowed := true }
def FnExactAfterWordUptoSaid : Prop := fnExactAfterWordUptoRow.holds Try.pinned (OpenSpec.upto fnExactAfterWordSpec)

end Rows
end Go.Proofs.Ytlakokejoifamaa
