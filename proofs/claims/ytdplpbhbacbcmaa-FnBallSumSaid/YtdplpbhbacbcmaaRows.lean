/-
  No cell of these rows narrows 'for every input' (looked for: loops, veiled, ifaces, maps, wideKeys, modest, calm, conditions, laid).
  DERIVED. THE GIVEN ROWS OF THIS SEAT. 10 by the template 'for every input the law returns true; each argument reads behind the call as it read before'; 0 by the template 'total and deterministic' (their statements: YtdplpbhbacbcmaaTotals.lean).
  GIVEN WITH THE SEED: the statements are not yours to turn. If you find one false, say at which input.
  Laid BY PROGRAM, IN A SANDBOX (cutbox-rows.mjs): the forced cells as the released guide's own fill.sh prints them over the translation 8b57e184f29d9664… (all of the seat's roots in one cut). By AI agents, Wed Nov 11 2026. No macro, syntax, notation, axiom, sorry.
-/
import Derived.Test.YtdplpbhbacbcmaaChecked
import GoSem.Claim
import GoSem.ClaimJoined
import GoSem.ClaimMapViews
import Derived.JoinedTies
import Derived.KernelRfl
namespace Go.Proofs.Ytdplpbhbacbcmaa
/- THE CELL 'sum', in the pinned program and in every row, IS THE sha256 OF THE DUMP (.gsa) THAT YtdplpbhbacbcmaaProg.lean LOADS. Nothing in Lean hashes anything: it is a label: what it is worth is what the hold of that sum in a sandbox is worth. -/
noncomputable def Try.pinned : Pinned := { name := "ytdplpbhbacbcmaa", sum := "8b57e184f29d9664f4674985cc33833a8371bd462cb9336a5b9f71324da878ce", checked := Try.checked }
namespace Rows
def none {H : Type} : Left H := { results := [], args := [] }

/-- 'laws.FnBallSum': WHATEVER THE INPUT: true; the input reads as it did. -/
def fnBallSumSpec : ChangeSpec := { name := "fnBallSum", fn := fun _ => fun
  | [d] => { results := [.lit (.bool true)], args := [d] }
  | _ => none }
def fnBallSumRow : OpenClaim := { program := "ytdplpbhbacbcmaa", sum := "8b57e184f29d9664f4674985cc33833a8371bd462cb9336a5b9f71324da878ce", func := "loop.example/urnsandballs/laws.FnBallSum", spec := "fnBallSum", unfollowed := true, recurses := true, apart := false }
def FnBallSumSaid : Prop := fnBallSumRow.holds Try.pinned (OpenSpec.ofChange fnBallSumSpec)

/-- ITS FALSE NEIGHBOUR: 'it returns false'. Refute it at one input. -/
def fnBallSumWrong : ChangeSpec := { name := "fnBallSum", fn := fun _ => fun
  | [d] => { results := [.lit (.bool false)], args := [d] }
  | _ => none }
def FnBallSumWrongFalsely : Prop := fnBallSumRow.holds Try.pinned (OpenSpec.ofChange fnBallSumWrong)

/-- 'laws.FnRuleAll': WHATEVER THE INPUT: true; the input reads as it did. -/
def fnRuleAllSpec : ChangeSpec := { name := "fnRuleAll", fn := fun _ => fun
  | [d] => { results := [.lit (.bool true)], args := [d] }
  | _ => none }
def fnRuleAllRow : OpenClaim := { program := "ytdplpbhbacbcmaa", sum := "8b57e184f29d9664f4674985cc33833a8371bd462cb9336a5b9f71324da878ce", func := "loop.example/urnsandballs/laws.FnRuleAll", spec := "fnRuleAll", unfollowed := true, recurses := true, apart := false }
def FnRuleAllSaid : Prop := fnRuleAllRow.holds Try.pinned (OpenSpec.ofChange fnRuleAllSpec)

/-- ITS FALSE NEIGHBOUR: 'it returns false'. Refute it at one input. -/
def fnRuleAllWrong : ChangeSpec := { name := "fnRuleAll", fn := fun _ => fun
  | [d] => { results := [.lit (.bool false)], args := [d] }
  | _ => none }
def FnRuleAllWrongFalsely : Prop := fnRuleAllRow.holds Try.pinned (OpenSpec.ofChange fnRuleAllWrong)

/-- 'laws.FnExactWordsWith': WHATEVER THE INPUT: true; the input reads as it did. -/
def fnExactWordsWithSpec : ChangeSpec := { name := "fnExactWordsWith", fn := fun _ => fun
  | [d1, d2] => { results := [.lit (.bool true)], args := [d1, d2] }
  | _ => none }
def fnExactWordsWithRow : OpenClaim := { program := "ytdplpbhbacbcmaa", sum := "8b57e184f29d9664f4674985cc33833a8371bd462cb9336a5b9f71324da878ce", func := "loop.example/urnsandballs/laws.FnExactWordsWith", spec := "fnExactWordsWith", unfollowed := true, recurses := true, apart := false }
def FnExactWordsWithSaid : Prop := fnExactWordsWithRow.holds Try.pinned (OpenSpec.ofChange fnExactWordsWithSpec)

/-- ITS FALSE NEIGHBOUR: 'it returns false'. Refute it at one input. -/
def fnExactWordsWithWrong : ChangeSpec := { name := "fnExactWordsWith", fn := fun _ => fun
  | [d1, d2] => { results := [.lit (.bool false)], args := [d1, d2] }
  | _ => none }
def FnExactWordsWithWrongFalsely : Prop := fnExactWordsWithRow.holds Try.pinned (OpenSpec.ofChange fnExactWordsWithWrong)

/-- 'laws.FnWordsWith': WHATEVER THE INPUT: true; the input reads as it did. -/
def fnWordsWithSpec : ChangeSpec := { name := "fnWordsWith", fn := fun _ => fun
  | [d] => { results := [.lit (.bool true)], args := [d] }
  | _ => none }
def fnWordsWithRow : OpenClaim := { program := "ytdplpbhbacbcmaa", sum := "8b57e184f29d9664f4674985cc33833a8371bd462cb9336a5b9f71324da878ce", func := "loop.example/urnsandballs/laws.FnWordsWith", spec := "fnWordsWith", unfollowed := true, recurses := true, apart := false }
def FnWordsWithSaid : Prop := fnWordsWithRow.holds Try.pinned (OpenSpec.ofChange fnWordsWithSpec)

/-- ITS FALSE NEIGHBOUR: 'it returns false'. Refute it at one input. -/
def fnWordsWithWrong : ChangeSpec := { name := "fnWordsWith", fn := fun _ => fun
  | [d] => { results := [.lit (.bool false)], args := [d] }
  | _ => none }
def FnWordsWithWrongFalsely : Prop := fnWordsWithRow.holds Try.pinned (OpenSpec.ofChange fnWordsWithWrong)

/-- 'laws.FnCountsOf': WHATEVER THE INPUT: true; the input reads as it did. -/
def fnCountsOfSpec : ChangeSpec := { name := "fnCountsOf", fn := fun _ => fun
  | [d] => { results := [.lit (.bool true)], args := [d] }
  | _ => none }
def fnCountsOfRow : OpenClaim := { program := "ytdplpbhbacbcmaa", sum := "8b57e184f29d9664f4674985cc33833a8371bd462cb9336a5b9f71324da878ce", func := "loop.example/urnsandballs/laws.FnCountsOf", spec := "fnCountsOf", unfollowed := true, recurses := true, apart := false }
def FnCountsOfSaid : Prop := fnCountsOfRow.holds Try.pinned (OpenSpec.ofChange fnCountsOfSpec)

/-- ITS FALSE NEIGHBOUR: 'it returns false'. Refute it at one input. -/
def fnCountsOfWrong : ChangeSpec := { name := "fnCountsOf", fn := fun _ => fun
  | [d] => { results := [.lit (.bool false)], args := [d] }
  | _ => none }
def FnCountsOfWrongFalsely : Prop := fnCountsOfRow.holds Try.pinned (OpenSpec.ofChange fnCountsOfWrong)

/-- 'laws.FnExactShareSum': WHATEVER THE INPUT: true; the input reads as it did. -/
def fnExactShareSumSpec : ChangeSpec := { name := "fnExactShareSum", fn := fun _ => fun
  | [d1, d2, d3, d4] => { results := [.lit (.bool true)], args := [d1, d2, d3, d4] }
  | _ => none }
def fnExactShareSumRow : OpenClaim := { program := "ytdplpbhbacbcmaa", sum := "8b57e184f29d9664f4674985cc33833a8371bd462cb9336a5b9f71324da878ce", func := "loop.example/urnsandballs/laws.FnExactShareSum", spec := "fnExactShareSum", unfollowed := true, recurses := true, apart := false }
def FnExactShareSumSaid : Prop := fnExactShareSumRow.holds Try.pinned (OpenSpec.ofChange fnExactShareSumSpec)

/-- ITS FALSE NEIGHBOUR: 'it returns false'. Refute it at one input. -/
def fnExactShareSumWrong : ChangeSpec := { name := "fnExactShareSum", fn := fun _ => fun
  | [d1, d2, d3, d4] => { results := [.lit (.bool false)], args := [d1, d2, d3, d4] }
  | _ => none }
def FnExactShareSumWrongFalsely : Prop := fnExactShareSumRow.holds Try.pinned (OpenSpec.ofChange fnExactShareSumWrong)

/-- 'laws.FnExactBackCounts': WHATEVER THE INPUT: true; the input reads as it did. -/
def fnExactBackCountsSpec : ChangeSpec := { name := "fnExactBackCounts", fn := fun _ => fun
  | [d1, d2] => { results := [.lit (.bool true)], args := [d1, d2] }
  | _ => none }
def fnExactBackCountsRow : OpenClaim := { program := "ytdplpbhbacbcmaa", sum := "8b57e184f29d9664f4674985cc33833a8371bd462cb9336a5b9f71324da878ce", func := "loop.example/urnsandballs/laws.FnExactBackCounts", spec := "fnExactBackCounts", unfollowed := true, recurses := true, apart := false }
def FnExactBackCountsSaid : Prop := fnExactBackCountsRow.holds Try.pinned (OpenSpec.ofChange fnExactBackCountsSpec)

/-- ITS FALSE NEIGHBOUR: 'it returns false'. Refute it at one input. -/
def fnExactBackCountsWrong : ChangeSpec := { name := "fnExactBackCounts", fn := fun _ => fun
  | [d1, d2] => { results := [.lit (.bool false)], args := [d1, d2] }
  | _ => none }
def FnExactBackCountsWrongFalsely : Prop := fnExactBackCountsRow.holds Try.pinned (OpenSpec.ofChange fnExactBackCountsWrong)

/-- 'laws.FnExactRuleAll': WHATEVER THE INPUT: true; the input reads as it did. -/
def fnExactRuleAllSpec : ChangeSpec := { name := "fnExactRuleAll", fn := fun _ => fun
  | [d1, d2, d3] => { results := [.lit (.bool true)], args := [d1, d2, d3] }
  | _ => none }
def fnExactRuleAllRow : OpenClaim := { program := "ytdplpbhbacbcmaa", sum := "8b57e184f29d9664f4674985cc33833a8371bd462cb9336a5b9f71324da878ce", func := "loop.example/urnsandballs/laws.FnExactRuleAll", spec := "fnExactRuleAll", unfollowed := true, recurses := true, apart := false }
def FnExactRuleAllSaid : Prop := fnExactRuleAllRow.holds Try.pinned (OpenSpec.ofChange fnExactRuleAllSpec)

/-- ITS FALSE NEIGHBOUR: 'it returns false'. Refute it at one input. -/
def fnExactRuleAllWrong : ChangeSpec := { name := "fnExactRuleAll", fn := fun _ => fun
  | [d1, d2, d3] => { results := [.lit (.bool false)], args := [d1, d2, d3] }
  | _ => none }
def FnExactRuleAllWrongFalsely : Prop := fnExactRuleAllRow.holds Try.pinned (OpenSpec.ofChange fnExactRuleAllWrong)

/-- 'laws.FnExactBallSum': WHATEVER THE INPUT: true; the input reads as it did. -/
def fnExactBallSumSpec : ChangeSpec := { name := "fnExactBallSum", fn := fun _ => fun
  | [d1, d2, d3, d4] => { results := [.lit (.bool true)], args := [d1, d2, d3, d4] }
  | _ => none }
def fnExactBallSumRow : OpenClaim := { program := "ytdplpbhbacbcmaa", sum := "8b57e184f29d9664f4674985cc33833a8371bd462cb9336a5b9f71324da878ce", func := "loop.example/urnsandballs/laws.FnExactBallSum", spec := "fnExactBallSum", unfollowed := true, recurses := true, apart := false }
def FnExactBallSumSaid : Prop := fnExactBallSumRow.holds Try.pinned (OpenSpec.ofChange fnExactBallSumSpec)

/-- ITS FALSE NEIGHBOUR: 'it returns false'. Refute it at one input. -/
def fnExactBallSumWrong : ChangeSpec := { name := "fnExactBallSum", fn := fun _ => fun
  | [d1, d2, d3, d4] => { results := [.lit (.bool false)], args := [d1, d2, d3, d4] }
  | _ => none }
def FnExactBallSumWrongFalsely : Prop := fnExactBallSumRow.holds Try.pinned (OpenSpec.ofChange fnExactBallSumWrong)

/-- 'laws.FnRuleNext': WHATEVER THE INPUT: true; the input reads as it did. -/
def fnRuleNextSpec : ChangeSpec := { name := "fnRuleNext", fn := fun _ => fun
  | [d] => { results := [.lit (.bool true)], args := [d] }
  | _ => none }
def fnRuleNextRow : OpenClaim := { program := "ytdplpbhbacbcmaa", sum := "8b57e184f29d9664f4674985cc33833a8371bd462cb9336a5b9f71324da878ce", func := "loop.example/urnsandballs/laws.FnRuleNext", spec := "fnRuleNext", unfollowed := true, recurses := true, apart := false }
def FnRuleNextSaid : Prop := fnRuleNextRow.holds Try.pinned (OpenSpec.ofChange fnRuleNextSpec)

/-- ITS FALSE NEIGHBOUR: 'it returns false'. Refute it at one input. -/
def fnRuleNextWrong : ChangeSpec := { name := "fnRuleNext", fn := fun _ => fun
  | [d] => { results := [.lit (.bool false)], args := [d] }
  | _ => none }
def FnRuleNextWrongFalsely : Prop := fnRuleNextRow.holds Try.pinned (OpenSpec.ofChange fnRuleNextWrong)

/- THE SECOND FORM. 'bulk': how many values and letters a reading holds, each counted each time it is reached (what is shared counts as often as it is met; a slice's spare places count too). A statement '..UptoSaid' is the law's where the arguments, and the package variables that the reading takes, are together of bulk at most 1048576: NARROWER than '..Said'. Prove '..Said' where nothing that the law and all that it calls make is longer than what came in: it says more and counts as full. Else prove '..UptoSaid'. A law counts once. -/
mutual
def uptoBulk {H : Type} : DataW H → Nat
  | .lit (.string bytes) => bytes.length + 1
  | .lit _ => 1
  | .nil => 1
  | .ptr d => uptoBulk d + 1
  | .slice elems spare => uptoBulkAll elems + uptoBulkAll spare + 1
  | .agg parts => uptoBulkAll parts + 1
  | .iface _ d => uptoBulk d + 1
  | .map entries => uptoBulkEntries entries + 1
  | .held _ => 1
def uptoBulkAll {H : Type} : List (DataW H) → Nat
  | [] => 0
  | d :: r => uptoBulk d + uptoBulkAll r
def uptoBulkEntries {H : Type} : List (Lit × DataW H) → Nat
  | [] => 0
  | x :: r => uptoBulkEntry x + uptoBulkEntries r
def uptoBulkEntry {H : Type} : Lit × DataW H → Nat
  | (.string bytes, d) => bytes.length + uptoBulk d + 1
  | (_, d) => uptoBulk d + 1
 end
def uptoSmall : (H : Type) → List (DataW H) → Bool := fun _ ds => decide (uptoBulkAll ds ≤ 1048576)
def OpenSpec.upto (s : _root_.Go.ChangeSpec) : _root_.Go.OpenSpec := { _root_.Go.OpenSpec.ofChange s with cond := some uptoSmall }

/-- 'laws.FnBallSum', WHERE WHAT IT READS IS OF BULK AT MOST 1048576: true; the input reads as it did. -/
def fnBallSumUptoRow : OpenClaim := { program := "ytdplpbhbacbcmaa", sum := "8b57e184f29d9664f4674985cc33833a8371bd462cb9336a5b9f71324da878ce", func := "loop.example/urnsandballs/laws.FnBallSum", spec := "fnBallSum", unfollowed := true, recurses := true, apart := false, narrowed := true }
def FnBallSumUptoSaid : Prop := fnBallSumUptoRow.holds Try.pinned (OpenSpec.upto fnBallSumSpec)

/-- 'laws.FnRuleAll', WHERE WHAT IT READS IS OF BULK AT MOST 1048576: true; the input reads as it did. -/
def fnRuleAllUptoRow : OpenClaim := { program := "ytdplpbhbacbcmaa", sum := "8b57e184f29d9664f4674985cc33833a8371bd462cb9336a5b9f71324da878ce", func := "loop.example/urnsandballs/laws.FnRuleAll", spec := "fnRuleAll", unfollowed := true, recurses := true, apart := false, narrowed := true }
def FnRuleAllUptoSaid : Prop := fnRuleAllUptoRow.holds Try.pinned (OpenSpec.upto fnRuleAllSpec)

/-- 'laws.FnExactWordsWith', WHERE WHAT IT READS IS OF BULK AT MOST 1048576: true; the input reads as it did. -/
def fnExactWordsWithUptoRow : OpenClaim := { program := "ytdplpbhbacbcmaa", sum := "8b57e184f29d9664f4674985cc33833a8371bd462cb9336a5b9f71324da878ce", func := "loop.example/urnsandballs/laws.FnExactWordsWith", spec := "fnExactWordsWith", unfollowed := true, recurses := true, apart := false, narrowed := true }
def FnExactWordsWithUptoSaid : Prop := fnExactWordsWithUptoRow.holds Try.pinned (OpenSpec.upto fnExactWordsWithSpec)

/-- 'laws.FnWordsWith', WHERE WHAT IT READS IS OF BULK AT MOST 1048576: true; the input reads as it did. -/
def fnWordsWithUptoRow : OpenClaim := { program := "ytdplpbhbacbcmaa", sum := "8b57e184f29d9664f4674985cc33833a8371bd462cb9336a5b9f71324da878ce", func := "loop.example/urnsandballs/laws.FnWordsWith", spec := "fnWordsWith", unfollowed := true, recurses := true, apart := false, narrowed := true }
def FnWordsWithUptoSaid : Prop := fnWordsWithUptoRow.holds Try.pinned (OpenSpec.upto fnWordsWithSpec)

/-- 'laws.FnCountsOf', WHERE WHAT IT READS IS OF BULK AT MOST 1048576: true; the input reads as it did. -/
def fnCountsOfUptoRow : OpenClaim := { program := "ytdplpbhbacbcmaa", sum := "8b57e184f29d9664f4674985cc33833a8371bd462cb9336a5b9f71324da878ce", func := "loop.example/urnsandballs/laws.FnCountsOf", spec := "fnCountsOf", unfollowed := true, recurses := true, apart := false, narrowed := true }
def FnCountsOfUptoSaid : Prop := fnCountsOfUptoRow.holds Try.pinned (OpenSpec.upto fnCountsOfSpec)

/-- 'laws.FnExactShareSum', WHERE WHAT IT READS IS OF BULK AT MOST 1048576: true; the input reads as it did. -/
def fnExactShareSumUptoRow : OpenClaim := { program := "ytdplpbhbacbcmaa", sum := "8b57e184f29d9664f4674985cc33833a8371bd462cb9336a5b9f71324da878ce", func := "loop.example/urnsandballs/laws.FnExactShareSum", spec := "fnExactShareSum", unfollowed := true, recurses := true, apart := false, narrowed := true }
def FnExactShareSumUptoSaid : Prop := fnExactShareSumUptoRow.holds Try.pinned (OpenSpec.upto fnExactShareSumSpec)

/-- 'laws.FnExactBackCounts', WHERE WHAT IT READS IS OF BULK AT MOST 1048576: true; the input reads as it did. -/
def fnExactBackCountsUptoRow : OpenClaim := { program := "ytdplpbhbacbcmaa", sum := "8b57e184f29d9664f4674985cc33833a8371bd462cb9336a5b9f71324da878ce", func := "loop.example/urnsandballs/laws.FnExactBackCounts", spec := "fnExactBackCounts", unfollowed := true, recurses := true, apart := false, narrowed := true }
def FnExactBackCountsUptoSaid : Prop := fnExactBackCountsUptoRow.holds Try.pinned (OpenSpec.upto fnExactBackCountsSpec)

/-- 'laws.FnExactRuleAll', WHERE WHAT IT READS IS OF BULK AT MOST 1048576: true; the input reads as it did. -/
def fnExactRuleAllUptoRow : OpenClaim := { program := "ytdplpbhbacbcmaa", sum := "8b57e184f29d9664f4674985cc33833a8371bd462cb9336a5b9f71324da878ce", func := "loop.example/urnsandballs/laws.FnExactRuleAll", spec := "fnExactRuleAll", unfollowed := true, recurses := true, apart := false, narrowed := true }
def FnExactRuleAllUptoSaid : Prop := fnExactRuleAllUptoRow.holds Try.pinned (OpenSpec.upto fnExactRuleAllSpec)

/-- 'laws.FnExactBallSum', WHERE WHAT IT READS IS OF BULK AT MOST 1048576: true; the input reads as it did. -/
def fnExactBallSumUptoRow : OpenClaim := { program := "ytdplpbhbacbcmaa", sum := "8b57e184f29d9664f4674985cc33833a8371bd462cb9336a5b9f71324da878ce", func := "loop.example/urnsandballs/laws.FnExactBallSum", spec := "fnExactBallSum", unfollowed := true, recurses := true, apart := false, narrowed := true }
def FnExactBallSumUptoSaid : Prop := fnExactBallSumUptoRow.holds Try.pinned (OpenSpec.upto fnExactBallSumSpec)

/-- 'laws.FnRuleNext', WHERE WHAT IT READS IS OF BULK AT MOST 1048576: true; the input reads as it did. -/
def fnRuleNextUptoRow : OpenClaim := { program := "ytdplpbhbacbcmaa", sum := "8b57e184f29d9664f4674985cc33833a8371bd462cb9336a5b9f71324da878ce", func := "loop.example/urnsandballs/laws.FnRuleNext", spec := "fnRuleNext", unfollowed := true, recurses := true, apart := false, narrowed := true }
def FnRuleNextUptoSaid : Prop := fnRuleNextUptoRow.holds Try.pinned (OpenSpec.upto fnRuleNextSpec)

end Rows
end Go.Proofs.Ytdplpbhbacbcmaa
