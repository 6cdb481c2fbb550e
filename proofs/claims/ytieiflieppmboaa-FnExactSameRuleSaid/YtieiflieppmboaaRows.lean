/-
  No cell of these rows narrows 'for every input' (looked for: loops, veiled, ifaces, maps, wideKeys, modest, calm, conditions, laid).
  DERIVED. THE GIVEN ROWS OF THIS SEAT. 10 by the template 'for every input the law returns true; each argument reads behind the call as it read before'; 0 by the template 'total and deterministic' (their statements: YtieiflieppmboaaTotals.lean).
  GIVEN WITH THE SEED: the statements are not yours to turn. If you find one false, say at which input.
  Laid BY PROGRAM, IN A SANDBOX (cutbox-rows.mjs): the forced cells as the released guide's own fill.sh prints them over the translation 90ffc511af328869… (all of the seat's roots in one cut). By AI agents, Wed Nov 11 2026. No macro, syntax, notation, axiom, sorry.
-/
import Derived.Test.YtieiflieppmboaaChecked
import GoSem.Claim
import GoSem.ClaimJoined
import GoSem.ClaimMapViews
import Derived.JoinedTies
import Derived.KernelRfl
namespace Go.Proofs.Ytieiflieppmboaa
/- THE CELL 'sum', in the pinned program and in every row, IS THE sha256 OF THE DUMP (.gsa) THAT YtieiflieppmboaaProg.lean LOADS. Nothing in Lean hashes anything: it is a label: what it is worth is what the hold of that sum in a sandbox is worth. -/
noncomputable def Try.pinned : Pinned := { name := "ytieiflieppmboaa", sum := "90ffc511af3288698b701cfc390bc05436d1cb7da35cf098c10ca3a05e422912", checked := Try.checked }
namespace Rows
def none {H : Type} : Left H := { results := [], args := [] }

/-- 'laws.FnWordOk': WHATEVER THE INPUT: true; the input reads as it did. -/
def fnWordOkSpec : ChangeSpec := { name := "fnWordOk", fn := fun _ => fun
  | [d] => { results := [.lit (.bool true)], args := [d] }
  | _ => none }
def fnWordOkRow : OpenClaim := { program := "ytieiflieppmboaa", sum := "90ffc511af3288698b701cfc390bc05436d1cb7da35cf098c10ca3a05e422912", func := "loop.example/urnsandballs/laws.FnWordOk", spec := "fnWordOk", apart := false }
def FnWordOkSaid : Prop := fnWordOkRow.holds Try.pinned (OpenSpec.ofChange fnWordOkSpec)

/-- ITS FALSE NEIGHBOUR: 'it returns false'. Refute it at one input. -/
def fnWordOkWrong : ChangeSpec := { name := "fnWordOk", fn := fun _ => fun
  | [d] => { results := [.lit (.bool false)], args := [d] }
  | _ => none }
def FnWordOkWrongFalsely : Prop := fnWordOkRow.holds Try.pinned (OpenSpec.ofChange fnWordOkWrong)

/-- 'laws.FnExactTotalOf': WHATEVER THE INPUT: true; the input reads as it did. -/
def fnExactTotalOfSpec : ChangeSpec := { name := "fnExactTotalOf", fn := fun _ => fun
  | [d] => { results := [.lit (.bool true)], args := [d] }
  | _ => none }
def fnExactTotalOfRow : OpenClaim := { program := "ytieiflieppmboaa", sum := "90ffc511af3288698b701cfc390bc05436d1cb7da35cf098c10ca3a05e422912", func := "loop.example/urnsandballs/laws.FnExactTotalOf", spec := "fnExactTotalOf", apart := false }
def FnExactTotalOfSaid : Prop := fnExactTotalOfRow.holds Try.pinned (OpenSpec.ofChange fnExactTotalOfSpec)

/-- ITS FALSE NEIGHBOUR: 'it returns false'. Refute it at one input. -/
def fnExactTotalOfWrong : ChangeSpec := { name := "fnExactTotalOf", fn := fun _ => fun
  | [d] => { results := [.lit (.bool false)], args := [d] }
  | _ => none }
def FnExactTotalOfWrongFalsely : Prop := fnExactTotalOfRow.holds Try.pinned (OpenSpec.ofChange fnExactTotalOfWrong)

/-- 'laws.FnRisingOf': WHATEVER THE INPUT: true; the input reads as it did. -/
def fnRisingOfSpec : ChangeSpec := { name := "fnRisingOf", fn := fun _ => fun
  | [d] => { results := [.lit (.bool true)], args := [d] }
  | _ => none }
def fnRisingOfRow : OpenClaim := { program := "ytieiflieppmboaa", sum := "90ffc511af3288698b701cfc390bc05436d1cb7da35cf098c10ca3a05e422912", func := "loop.example/urnsandballs/laws.FnRisingOf", spec := "fnRisingOf", apart := false }
def FnRisingOfSaid : Prop := fnRisingOfRow.holds Try.pinned (OpenSpec.ofChange fnRisingOfSpec)

/-- ITS FALSE NEIGHBOUR: 'it returns false'. Refute it at one input. -/
def fnRisingOfWrong : ChangeSpec := { name := "fnRisingOf", fn := fun _ => fun
  | [d] => { results := [.lit (.bool false)], args := [d] }
  | _ => none }
def FnRisingOfWrongFalsely : Prop := fnRisingOfRow.holds Try.pinned (OpenSpec.ofChange fnRisingOfWrong)

/-- 'laws.FnCountRowOk': WHATEVER THE INPUT: true; the input reads as it did. -/
def fnCountRowOkSpec : ChangeSpec := { name := "fnCountRowOk", fn := fun _ => fun
  | [d] => { results := [.lit (.bool true)], args := [d] }
  | _ => none }
def fnCountRowOkRow : OpenClaim := { program := "ytieiflieppmboaa", sum := "90ffc511af3288698b701cfc390bc05436d1cb7da35cf098c10ca3a05e422912", func := "loop.example/urnsandballs/laws.FnCountRowOk", spec := "fnCountRowOk", apart := false }
def FnCountRowOkSaid : Prop := fnCountRowOkRow.holds Try.pinned (OpenSpec.ofChange fnCountRowOkSpec)

/-- ITS FALSE NEIGHBOUR: 'it returns false'. Refute it at one input. -/
def fnCountRowOkWrong : ChangeSpec := { name := "fnCountRowOk", fn := fun _ => fun
  | [d] => { results := [.lit (.bool false)], args := [d] }
  | _ => none }
def FnCountRowOkWrongFalsely : Prop := fnCountRowOkRow.holds Try.pinned (OpenSpec.ofChange fnCountRowOkWrong)

/-- 'laws.FnExactBackWays': WHATEVER THE INPUT: true; the input reads as it did. -/
def fnExactBackWaysSpec : ChangeSpec := { name := "fnExactBackWays", fn := fun _ => fun
  | [d1, d2] => { results := [.lit (.bool true)], args := [d1, d2] }
  | _ => none }
def fnExactBackWaysRow : OpenClaim := { program := "ytieiflieppmboaa", sum := "90ffc511af3288698b701cfc390bc05436d1cb7da35cf098c10ca3a05e422912", func := "loop.example/urnsandballs/laws.FnExactBackWays", spec := "fnExactBackWays", apart := false }
def FnExactBackWaysSaid : Prop := fnExactBackWaysRow.holds Try.pinned (OpenSpec.ofChange fnExactBackWaysSpec)

/-- ITS FALSE NEIGHBOUR: 'it returns false'. Refute it at one input. -/
def fnExactBackWaysWrong : ChangeSpec := { name := "fnExactBackWays", fn := fun _ => fun
  | [d1, d2] => { results := [.lit (.bool false)], args := [d1, d2] }
  | _ => none }
def FnExactBackWaysWrongFalsely : Prop := fnExactBackWaysRow.holds Try.pinned (OpenSpec.ofChange fnExactBackWaysWrong)

/-- 'laws.FnExactAllWays': WHATEVER THE INPUT: true; the input reads as it did. -/
def fnExactAllWaysSpec : ChangeSpec := { name := "fnExactAllWays", fn := fun _ => fun
  | [d1, d2] => { results := [.lit (.bool true)], args := [d1, d2] }
  | _ => none }
def fnExactAllWaysRow : OpenClaim := { program := "ytieiflieppmboaa", sum := "90ffc511af3288698b701cfc390bc05436d1cb7da35cf098c10ca3a05e422912", func := "loop.example/urnsandballs/laws.FnExactAllWays", spec := "fnExactAllWays", apart := false }
def FnExactAllWaysSaid : Prop := fnExactAllWaysRow.holds Try.pinned (OpenSpec.ofChange fnExactAllWaysSpec)

/-- ITS FALSE NEIGHBOUR: 'it returns false'. Refute it at one input. -/
def fnExactAllWaysWrong : ChangeSpec := { name := "fnExactAllWays", fn := fun _ => fun
  | [d1, d2] => { results := [.lit (.bool false)], args := [d1, d2] }
  | _ => none }
def FnExactAllWaysWrongFalsely : Prop := fnExactAllWaysRow.holds Try.pinned (OpenSpec.ofChange fnExactAllWaysWrong)

/-- 'laws.FnExactCountsOf': WHATEVER THE INPUT: true; the input reads as it did. -/
def fnExactCountsOfSpec : ChangeSpec := { name := "fnExactCountsOf", fn := fun _ => fun
  | [d1, d2] => { results := [.lit (.bool true)], args := [d1, d2] }
  | _ => none }
def fnExactCountsOfRow : OpenClaim := { program := "ytieiflieppmboaa", sum := "90ffc511af3288698b701cfc390bc05436d1cb7da35cf098c10ca3a05e422912", func := "loop.example/urnsandballs/laws.FnExactCountsOf", spec := "fnExactCountsOf", apart := false }
def FnExactCountsOfSaid : Prop := fnExactCountsOfRow.holds Try.pinned (OpenSpec.ofChange fnExactCountsOfSpec)

/-- ITS FALSE NEIGHBOUR: 'it returns false'. Refute it at one input. -/
def fnExactCountsOfWrong : ChangeSpec := { name := "fnExactCountsOf", fn := fun _ => fun
  | [d1, d2] => { results := [.lit (.bool false)], args := [d1, d2] }
  | _ => none }
def FnExactCountsOfWrongFalsely : Prop := fnExactCountsOfRow.holds Try.pinned (OpenSpec.ofChange fnExactCountsOfWrong)

/-- 'laws.FnExactSameRule': WHATEVER THE INPUT: true; the input reads as it did. -/
def fnExactSameRuleSpec : ChangeSpec := { name := "fnExactSameRule", fn := fun _ => fun
  | [d1, d2] => { results := [.lit (.bool true)], args := [d1, d2] }
  | _ => none }
def fnExactSameRuleRow : OpenClaim := { program := "ytieiflieppmboaa", sum := "90ffc511af3288698b701cfc390bc05436d1cb7da35cf098c10ca3a05e422912", func := "loop.example/urnsandballs/laws.FnExactSameRule", spec := "fnExactSameRule", apart := false }
def FnExactSameRuleSaid : Prop := fnExactSameRuleRow.holds Try.pinned (OpenSpec.ofChange fnExactSameRuleSpec)

/-- ITS FALSE NEIGHBOUR: 'it returns false'. Refute it at one input. -/
def fnExactSameRuleWrong : ChangeSpec := { name := "fnExactSameRule", fn := fun _ => fun
  | [d1, d2] => { results := [.lit (.bool false)], args := [d1, d2] }
  | _ => none }
def FnExactSameRuleWrongFalsely : Prop := fnExactSameRuleRow.holds Try.pinned (OpenSpec.ofChange fnExactSameRuleWrong)

/-- 'laws.FnExactBackAll': WHATEVER THE INPUT: true; the input reads as it did. -/
def fnExactBackAllSpec : ChangeSpec := { name := "fnExactBackAll", fn := fun _ => fun
  | [d1, d2] => { results := [.lit (.bool true)], args := [d1, d2] }
  | _ => none }
def fnExactBackAllRow : OpenClaim := { program := "ytieiflieppmboaa", sum := "90ffc511af3288698b701cfc390bc05436d1cb7da35cf098c10ca3a05e422912", func := "loop.example/urnsandballs/laws.FnExactBackAll", spec := "fnExactBackAll", apart := false }
def FnExactBackAllSaid : Prop := fnExactBackAllRow.holds Try.pinned (OpenSpec.ofChange fnExactBackAllSpec)

/-- ITS FALSE NEIGHBOUR: 'it returns false'. Refute it at one input. -/
def fnExactBackAllWrong : ChangeSpec := { name := "fnExactBackAll", fn := fun _ => fun
  | [d1, d2] => { results := [.lit (.bool false)], args := [d1, d2] }
  | _ => none }
def FnExactBackAllWrongFalsely : Prop := fnExactBackAllRow.holds Try.pinned (OpenSpec.ofChange fnExactBackAllWrong)

/-- 'laws.FnExactChanceOf': WHATEVER THE INPUT: true; the input reads as it did. -/
def fnExactChanceOfSpec : ChangeSpec := { name := "fnExactChanceOf", fn := fun _ => fun
  | [d1, d2] => { results := [.lit (.bool true)], args := [d1, d2] }
  | _ => none }
def fnExactChanceOfRow : OpenClaim := { program := "ytieiflieppmboaa", sum := "90ffc511af3288698b701cfc390bc05436d1cb7da35cf098c10ca3a05e422912", func := "loop.example/urnsandballs/laws.FnExactChanceOf", spec := "fnExactChanceOf", apart := false }
def FnExactChanceOfSaid : Prop := fnExactChanceOfRow.holds Try.pinned (OpenSpec.ofChange fnExactChanceOfSpec)

/-- ITS FALSE NEIGHBOUR: 'it returns false'. Refute it at one input. -/
def fnExactChanceOfWrong : ChangeSpec := { name := "fnExactChanceOf", fn := fun _ => fun
  | [d1, d2] => { results := [.lit (.bool false)], args := [d1, d2] }
  | _ => none }
def FnExactChanceOfWrongFalsely : Prop := fnExactChanceOfRow.holds Try.pinned (OpenSpec.ofChange fnExactChanceOfWrong)

/- THE SECOND FORM. 'bulk': how many values and letters a reading holds, each counted each time it is reached (what is shared counts as often as it is met; a slice's spare places count too). A statement '..UptoSaid' is the law's where the arguments, and the package variables that the reading takes, are together of bulk at most 1048576: NARROWER than '..Said'. Prove '..Said' where nothing that the law and all that it calls make is longer than what came in: it says more and counts as full. Else prove '..UptoSaid'. A law counts once. -/
mutual
def uptoBulk {H : Type} : DataW H → Nat
  | .lit (.string bytes) => bytes.length + 1
  | .lit _ => 1
  | .nil => 1
  | .ptr d => uptoBulk d + 1
  | .slice elems spare => uptoBulkAll elems + uptoBulkAll spare + 1
  | .agg parts => uptoBulkAll parts + 1
  | .iface _ d => uptoBulk d + 1
  | .map entries => uptoBulkEntries entries + 1
  | .held _ => 1
def uptoBulkAll {H : Type} : List (DataW H) → Nat
  | [] => 0
  | d :: r => uptoBulk d + uptoBulkAll r
def uptoBulkEntries {H : Type} : List (Lit × DataW H) → Nat
  | [] => 0
  | x :: r => uptoBulkEntry x + uptoBulkEntries r
def uptoBulkEntry {H : Type} : Lit × DataW H → Nat
  | (.string bytes, d) => bytes.length + uptoBulk d + 1
  | (_, d) => uptoBulk d + 1
 end
def uptoSmall : (H : Type) → List (DataW H) → Bool := fun _ ds => decide (uptoBulkAll ds ≤ 1048576)
def OpenSpec.upto (s : _root_.Go.ChangeSpec) : _root_.Go.OpenSpec := { _root_.Go.OpenSpec.ofChange s with cond := some uptoSmall }

/-- 'laws.FnWordOk', WHERE WHAT IT READS IS OF BULK AT MOST 1048576: true; the input reads as it did. -/
def fnWordOkUptoRow : OpenClaim := { program := "ytieiflieppmboaa", sum := "90ffc511af3288698b701cfc390bc05436d1cb7da35cf098c10ca3a05e422912", func := "loop.example/urnsandballs/laws.FnWordOk", spec := "fnWordOk", apart := false, narrowed := true }
def FnWordOkUptoSaid : Prop := fnWordOkUptoRow.holds Try.pinned (OpenSpec.upto fnWordOkSpec)

/-- 'laws.FnExactTotalOf', WHERE WHAT IT READS IS OF BULK AT MOST 1048576: true; the input reads as it did. -/
def fnExactTotalOfUptoRow : OpenClaim := { program := "ytieiflieppmboaa", sum := "90ffc511af3288698b701cfc390bc05436d1cb7da35cf098c10ca3a05e422912", func := "loop.example/urnsandballs/laws.FnExactTotalOf", spec := "fnExactTotalOf", apart := false, narrowed := true }
def FnExactTotalOfUptoSaid : Prop := fnExactTotalOfUptoRow.holds Try.pinned (OpenSpec.upto fnExactTotalOfSpec)

/-- 'laws.FnRisingOf', WHERE WHAT IT READS IS OF BULK AT MOST 1048576: true; the input reads as it did. -/
def fnRisingOfUptoRow : OpenClaim := { program := "ytieiflieppmboaa", sum := "90ffc511af3288698b701cfc390bc05436d1cb7da35cf098c10ca3a05e422912", func := "loop.example/urnsandballs/laws.FnRisingOf", spec := "fnRisingOf", apart := false, narrowed := true }
def FnRisingOfUptoSaid : Prop := fnRisingOfUptoRow.holds Try.pinned (OpenSpec.upto fnRisingOfSpec)

/-- 'laws.FnCountRowOk', WHERE WHAT IT READS IS OF BULK AT MOST 1048576: true; the input reads as it did. -/
def fnCountRowOkUptoRow : OpenClaim := { program := "ytieiflieppmboaa", sum := "90ffc511af3288698b701cfc390bc05436d1cb7da35cf098c10ca3a05e422912", func := "loop.example/urnsandballs/laws.FnCountRowOk", spec := "fnCountRowOk", apart := false, narrowed := true }
def FnCountRowOkUptoSaid : Prop := fnCountRowOkUptoRow.holds Try.pinned (OpenSpec.upto fnCountRowOkSpec)

/-- 'laws.FnExactBackWays', WHERE WHAT IT READS IS OF BULK AT MOST 1048576: true; the input reads as it did. -/
def fnExactBackWaysUptoRow : OpenClaim := { program := "ytieiflieppmboaa", sum := "90ffc511af3288698b701cfc390bc05436d1cb7da35cf098c10ca3a05e422912", func := "loop.example/urnsandballs/laws.FnExactBackWays", spec := "fnExactBackWays", apart := false, narrowed := true }
def FnExactBackWaysUptoSaid : Prop := fnExactBackWaysUptoRow.holds Try.pinned (OpenSpec.upto fnExactBackWaysSpec)

/-- 'laws.FnExactAllWays', WHERE WHAT IT READS IS OF BULK AT MOST 1048576: true; the input reads as it did. -/
def fnExactAllWaysUptoRow : OpenClaim := { program := "ytieiflieppmboaa", sum := "90ffc511af3288698b701cfc390bc05436d1cb7da35cf098c10ca3a05e422912", func := "loop.example/urnsandballs/laws.FnExactAllWays", spec := "fnExactAllWays", apart := false, narrowed := true }
def FnExactAllWaysUptoSaid : Prop := fnExactAllWaysUptoRow.holds Try.pinned (OpenSpec.upto fnExactAllWaysSpec)

/-- 'laws.FnExactCountsOf', WHERE WHAT IT READS IS OF BULK AT MOST 1048576: true; the input reads as it did. -/
def fnExactCountsOfUptoRow : OpenClaim := { program := "ytieiflieppmboaa", sum := "90ffc511af3288698b701cfc390bc05436d1cb7da35cf098c10ca3a05e422912", func := "loop.example/urnsandballs/laws.FnExactCountsOf", spec := "fnExactCountsOf", apart := false, narrowed := true }
def FnExactCountsOfUptoSaid : Prop := fnExactCountsOfUptoRow.holds Try.pinned (OpenSpec.upto fnExactCountsOfSpec)

/-- 'laws.FnExactSameRule', WHERE WHAT IT READS IS OF BULK AT MOST 1048576: true; the input reads as it did. -/
def fnExactSameRuleUptoRow : OpenClaim := { program := "ytieiflieppmboaa", sum := "90ffc511af3288698b701cfc390bc05436d1cb7da35cf098c10ca3a05e422912", func := "loop.example/urnsandballs/laws.FnExactSameRule", spec := "fnExactSameRule", apart := false, narrowed := true }
def FnExactSameRuleUptoSaid : Prop := fnExactSameRuleUptoRow.holds Try.pinned (OpenSpec.upto fnExactSameRuleSpec)

/-- 'laws.FnExactBackAll', WHERE WHAT IT READS IS OF BULK AT MOST 1048576: true; the input reads as it did. -/
def fnExactBackAllUptoRow : OpenClaim := { program := "ytieiflieppmboaa", sum := "90ffc511af3288698b701cfc390bc05436d1cb7da35cf098c10ca3a05e422912", func := "loop.example/urnsandballs/laws.FnExactBackAll", spec := "fnExactBackAll", apart := false, narrowed := true }
def FnExactBackAllUptoSaid : Prop := fnExactBackAllUptoRow.holds Try.pinned (OpenSpec.upto fnExactBackAllSpec)

/-- 'laws.FnExactChanceOf', WHERE WHAT IT READS IS OF BULK AT MOST 1048576: true; the input reads as it did. -/
def fnExactChanceOfUptoRow : OpenClaim := { program := "ytieiflieppmboaa", sum := "90ffc511af3288698b701cfc390bc05436d1cb7da35cf098c10ca3a05e422912", func := "loop.example/urnsandballs/laws.FnExactChanceOf", spec := "fnExactChanceOf", apart := false, narrowed := true }
def FnExactChanceOfUptoSaid : Prop := fnExactChanceOfUptoRow.holds Try.pinned (OpenSpec.upto fnExactChanceOfSpec)

end Rows
end Go.Proofs.Ytieiflieppmboaa
