/-
  No cell of these rows narrows 'for every input' (looked for: loops, veiled, ifaces, maps, wideKeys, modest, calm, conditions, laid).
  DERIVED. THE GIVEN ROWS OF THIS SEAT. 10 by the template 'for every input the law returns true; each argument reads behind the call as it read before'; 0 by the template 'total and deterministic' (their statements: YtfodnffdccfleaaTotals.lean).
  GIVEN WITH THE SEED: the statements are not yours to turn. If you find one false, say at which input.
  Laid BY PROGRAM, IN A SANDBOX (cutbox-rows.mjs): the forced cells as the released guide's own fill.sh prints them over the translation 9eb77abad0c6e6a4… (all of the seat's roots in one cut). By AI agents, Wed Nov 11 2026. No macro, syntax, notation, axiom, sorry.
-/
import Derived.Test.YtfodnffdccfleaaChecked
import GoSem.Claim
import GoSem.ClaimJoined
import GoSem.ClaimMapViews
import Derived.JoinedTies
import Derived.KernelRfl
namespace Go.Proofs.Ytfodnffdccfleaa
/- THE CELL 'sum', in the pinned program and in every row, IS THE sha256 OF THE DUMP (.gsa) THAT YtfodnffdccfleaaProg.lean LOADS. Nothing in Lean hashes anything: it is a label: what it is worth is what the hold of that sum in a sandbox is worth. -/
noncomputable def Try.pinned : Pinned := { name := "ytfodnffdccfleaa", sum := "9eb77abad0c6e6a4969b2d46fdce4c5001b702eaaea366b17ac0c753ac57db6e", checked := Try.checked }
namespace Rows
def none {H : Type} : Left H := { results := [], args := [] }

/-- 'laws.FnExactConstants': WHATEVER THE INPUT: true; the input reads as it did. -/
def fnExactConstantsSpec : ChangeSpec := { name := "fnExactConstants", fn := fun _ => fun
  | [] => { results := [.lit (.bool true)], args := [] }
  | _ => none }
def fnExactConstantsRow : OpenClaim := { program := "ytfodnffdccfleaa", sum := "9eb77abad0c6e6a4969b2d46fdce4c5001b702eaaea366b17ac0c753ac57db6e", func := "loop.example/urnsandballs/laws.FnExactConstants", spec := "fnExactConstants", apart := false }
def FnExactConstantsSaid : Prop := fnExactConstantsRow.holds Try.pinned (OpenSpec.ofChange fnExactConstantsSpec)

/-- ITS FALSE NEIGHBOUR: 'it returns false'. Refute it at one input. -/
def fnExactConstantsWrong : ChangeSpec := { name := "fnExactConstants", fn := fun _ => fun
  | [] => { results := [.lit (.bool false)], args := [] }
  | _ => none }
def FnExactConstantsWrongFalsely : Prop := fnExactConstantsRow.holds Try.pinned (OpenSpec.ofChange fnExactConstantsWrong)

/-- 'laws.FnExactRisingOf': WHATEVER THE INPUT: true; the input reads as it did. -/
def fnExactRisingOfSpec : ChangeSpec := { name := "fnExactRisingOf", fn := fun _ => fun
  | [d1, d2, d3] => { results := [.lit (.bool true)], args := [d1, d2, d3] }
  | _ => none }
def fnExactRisingOfRow : OpenClaim := { program := "ytfodnffdccfleaa", sum := "9eb77abad0c6e6a4969b2d46fdce4c5001b702eaaea366b17ac0c753ac57db6e", func := "loop.example/urnsandballs/laws.FnExactRisingOf", spec := "fnExactRisingOf", apart := false }
def FnExactRisingOfSaid : Prop := fnExactRisingOfRow.holds Try.pinned (OpenSpec.ofChange fnExactRisingOfSpec)

/-- ITS FALSE NEIGHBOUR: 'it returns false'. Refute it at one input. -/
def fnExactRisingOfWrong : ChangeSpec := { name := "fnExactRisingOf", fn := fun _ => fun
  | [d1, d2, d3] => { results := [.lit (.bool false)], args := [d1, d2, d3] }
  | _ => none }
def FnExactRisingOfWrongFalsely : Prop := fnExactRisingOfRow.holds Try.pinned (OpenSpec.ofChange fnExactRisingOfWrong)

/-- 'laws.FnExactUrnOk': WHATEVER THE INPUT: true; the input reads as it did. -/
def fnExactUrnOkSpec : ChangeSpec := { name := "fnExactUrnOk", fn := fun _ => fun
  | [d] => { results := [.lit (.bool true)], args := [d] }
  | _ => none }
def fnExactUrnOkRow : OpenClaim := { program := "ytfodnffdccfleaa", sum := "9eb77abad0c6e6a4969b2d46fdce4c5001b702eaaea366b17ac0c753ac57db6e", func := "loop.example/urnsandballs/laws.FnExactUrnOk", spec := "fnExactUrnOk", apart := false }
def FnExactUrnOkSaid : Prop := fnExactUrnOkRow.holds Try.pinned (OpenSpec.ofChange fnExactUrnOkSpec)

/-- ITS FALSE NEIGHBOUR: 'it returns false'. Refute it at one input. -/
def fnExactUrnOkWrong : ChangeSpec := { name := "fnExactUrnOk", fn := fun _ => fun
  | [d] => { results := [.lit (.bool false)], args := [d] }
  | _ => none }
def FnExactUrnOkWrongFalsely : Prop := fnExactUrnOkRow.holds Try.pinned (OpenSpec.ofChange fnExactUrnOkWrong)

/-- 'laws.FnExactWordOk': WHATEVER THE INPUT: true; the input reads as it did. -/
def fnExactWordOkSpec : ChangeSpec := { name := "fnExactWordOk", fn := fun _ => fun
  | [d1, d2] => { results := [.lit (.bool true)], args := [d1, d2] }
  | _ => none }
def fnExactWordOkRow : OpenClaim := { program := "ytfodnffdccfleaa", sum := "9eb77abad0c6e6a4969b2d46fdce4c5001b702eaaea366b17ac0c753ac57db6e", func := "loop.example/urnsandballs/laws.FnExactWordOk", spec := "fnExactWordOk", apart := false }
def FnExactWordOkSaid : Prop := fnExactWordOkRow.holds Try.pinned (OpenSpec.ofChange fnExactWordOkSpec)

/-- ITS FALSE NEIGHBOUR: 'it returns false'. Refute it at one input. -/
def fnExactWordOkWrong : ChangeSpec := { name := "fnExactWordOk", fn := fun _ => fun
  | [d1, d2] => { results := [.lit (.bool false)], args := [d1, d2] }
  | _ => none }
def FnExactWordOkWrongFalsely : Prop := fnExactWordOkRow.holds Try.pinned (OpenSpec.ofChange fnExactWordOkWrong)

/-- 'laws.FnExactCountRowOk': WHATEVER THE INPUT: true; the input reads as it did. -/
def fnExactCountRowOkSpec : ChangeSpec := { name := "fnExactCountRowOk", fn := fun _ => fun
  | [d1, d2] => { results := [.lit (.bool true)], args := [d1, d2] }
  | _ => none }
def fnExactCountRowOkRow : OpenClaim := { program := "ytfodnffdccfleaa", sum := "9eb77abad0c6e6a4969b2d46fdce4c5001b702eaaea366b17ac0c753ac57db6e", func := "loop.example/urnsandballs/laws.FnExactCountRowOk", spec := "fnExactCountRowOk", apart := false }
def FnExactCountRowOkSaid : Prop := fnExactCountRowOkRow.holds Try.pinned (OpenSpec.ofChange fnExactCountRowOkSpec)

/-- ITS FALSE NEIGHBOUR: 'it returns false'. Refute it at one input. -/
def fnExactCountRowOkWrong : ChangeSpec := { name := "fnExactCountRowOk", fn := fun _ => fun
  | [d1, d2] => { results := [.lit (.bool false)], args := [d1, d2] }
  | _ => none }
def FnExactCountRowOkWrongFalsely : Prop := fnExactCountRowOkRow.holds Try.pinned (OpenSpec.ofChange fnExactCountRowOkWrong)

/-- 'laws.FnAfterWord': WHATEVER THE INPUT: true; the input reads as it did. -/
def fnAfterWordSpec : ChangeSpec := { name := "fnAfterWord", fn := fun _ => fun
  | [d] => { results := [.lit (.bool true)], args := [d] }
  | _ => none }
def fnAfterWordRow : OpenClaim := { program := "ytfodnffdccfleaa", sum := "9eb77abad0c6e6a4969b2d46fdce4c5001b702eaaea366b17ac0c753ac57db6e", func := "loop.example/urnsandballs/laws.FnAfterWord", spec := "fnAfterWord", apart := false }
def FnAfterWordSaid : Prop := fnAfterWordRow.holds Try.pinned (OpenSpec.ofChange fnAfterWordSpec)

/-- ITS FALSE NEIGHBOUR: 'it returns false'. Refute it at one input. -/
def fnAfterWordWrong : ChangeSpec := { name := "fnAfterWord", fn := fun _ => fun
  | [d] => { results := [.lit (.bool false)], args := [d] }
  | _ => none }
def FnAfterWordWrongFalsely : Prop := fnAfterWordRow.holds Try.pinned (OpenSpec.ofChange fnAfterWordWrong)

/-- 'laws.FnExactStartOk': WHATEVER THE INPUT: true; the input reads as it did. -/
def fnExactStartOkSpec : ChangeSpec := { name := "fnExactStartOk", fn := fun _ => fun
  | [d] => { results := [.lit (.bool true)], args := [d] }
  | _ => none }
def fnExactStartOkRow : OpenClaim := { program := "ytfodnffdccfleaa", sum := "9eb77abad0c6e6a4969b2d46fdce4c5001b702eaaea366b17ac0c753ac57db6e", func := "loop.example/urnsandballs/laws.FnExactStartOk", spec := "fnExactStartOk", apart := false }
def FnExactStartOkSaid : Prop := fnExactStartOkRow.holds Try.pinned (OpenSpec.ofChange fnExactStartOkSpec)

/-- ITS FALSE NEIGHBOUR: 'it returns false'. Refute it at one input. -/
def fnExactStartOkWrong : ChangeSpec := { name := "fnExactStartOk", fn := fun _ => fun
  | [d] => { results := [.lit (.bool false)], args := [d] }
  | _ => none }
def FnExactStartOkWrongFalsely : Prop := fnExactStartOkRow.holds Try.pinned (OpenSpec.ofChange fnExactStartOkWrong)

/-- 'laws.FnExactSameApart': WHATEVER THE INPUT: true; the input reads as it did. -/
def fnExactSameApartSpec : ChangeSpec := { name := "fnExactSameApart", fn := fun _ => fun
  | [d] => { results := [.lit (.bool true)], args := [d] }
  | _ => none }
def fnExactSameApartRow : OpenClaim := { program := "ytfodnffdccfleaa", sum := "9eb77abad0c6e6a4969b2d46fdce4c5001b702eaaea366b17ac0c753ac57db6e", func := "loop.example/urnsandballs/laws.FnExactSameApart", spec := "fnExactSameApart", apart := false }
def FnExactSameApartSaid : Prop := fnExactSameApartRow.holds Try.pinned (OpenSpec.ofChange fnExactSameApartSpec)

/-- ITS FALSE NEIGHBOUR: 'it returns false'. Refute it at one input. -/
def fnExactSameApartWrong : ChangeSpec := { name := "fnExactSameApart", fn := fun _ => fun
  | [d] => { results := [.lit (.bool false)], args := [d] }
  | _ => none }
def FnExactSameApartWrongFalsely : Prop := fnExactSameApartRow.holds Try.pinned (OpenSpec.ofChange fnExactSameApartWrong)

/-- 'laws.FnExactSameTwice': WHATEVER THE INPUT: true; the input reads as it did. -/
def fnExactSameTwiceSpec : ChangeSpec := { name := "fnExactSameTwice", fn := fun _ => fun
  | [d] => { results := [.lit (.bool true)], args := [d] }
  | _ => none }
def fnExactSameTwiceRow : OpenClaim := { program := "ytfodnffdccfleaa", sum := "9eb77abad0c6e6a4969b2d46fdce4c5001b702eaaea366b17ac0c753ac57db6e", func := "loop.example/urnsandballs/laws.FnExactSameTwice", spec := "fnExactSameTwice", apart := false }
def FnExactSameTwiceSaid : Prop := fnExactSameTwiceRow.holds Try.pinned (OpenSpec.ofChange fnExactSameTwiceSpec)

/-- ITS FALSE NEIGHBOUR: 'it returns false'. Refute it at one input. -/
def fnExactSameTwiceWrong : ChangeSpec := { name := "fnExactSameTwice", fn := fun _ => fun
  | [d] => { results := [.lit (.bool false)], args := [d] }
  | _ => none }
def FnExactSameTwiceWrongFalsely : Prop := fnExactSameTwiceRow.holds Try.pinned (OpenSpec.ofChange fnExactSameTwiceWrong)

/-- 'laws.FnUrnOk': WHATEVER THE INPUT: true; the input reads as it did. -/
def fnUrnOkSpec : ChangeSpec := { name := "fnUrnOk", fn := fun _ => fun
  | [d] => { results := [.lit (.bool true)], args := [d] }
  | _ => none }
def fnUrnOkRow : OpenClaim := { program := "ytfodnffdccfleaa", sum := "9eb77abad0c6e6a4969b2d46fdce4c5001b702eaaea366b17ac0c753ac57db6e", func := "loop.example/urnsandballs/laws.FnUrnOk", spec := "fnUrnOk", apart := false }
def FnUrnOkSaid : Prop := fnUrnOkRow.holds Try.pinned (OpenSpec.ofChange fnUrnOkSpec)

/-- ITS FALSE NEIGHBOUR: 'it returns false'. Refute it at one input. -/
def fnUrnOkWrong : ChangeSpec := { name := "fnUrnOk", fn := fun _ => fun
  | [d] => { results := [.lit (.bool false)], args := [d] }
  | _ => none }
def FnUrnOkWrongFalsely : Prop := fnUrnOkRow.holds Try.pinned (OpenSpec.ofChange fnUrnOkWrong)

/- THE SECOND FORM. 'bulk': how many values and letters a reading holds, each counted each time it is reached (what is shared counts as often as it is met; a slice's spare places count too). A statement '..UptoSaid' is the law's where the arguments, and the package variables that the reading takes, are together of bulk at most 1048576: NARROWER than '..Said'. Prove '..Said' where nothing that the law and all that it calls make is longer than what came in: it says more and counts as full. Else prove '..UptoSaid'. A law counts once. -/
mutual
def uptoBulk {H : Type} : DataW H → Nat
  | .lit (.string bytes) => bytes.length + 1
  | .lit _ => 1
  | .nil => 1
  | .ptr d => uptoBulk d + 1
  | .slice elems spare => uptoBulkAll elems + uptoBulkAll spare + 1
  | .agg parts => uptoBulkAll parts + 1
  | .iface _ d => uptoBulk d + 1
  | .map entries => uptoBulkEntries entries + 1
  | .held _ => 1
def uptoBulkAll {H : Type} : List (DataW H) → Nat
  | [] => 0
  | d :: r => uptoBulk d + uptoBulkAll r
def uptoBulkEntries {H : Type} : List (Lit × DataW H) → Nat
  | [] => 0
  | x :: r => uptoBulkEntry x + uptoBulkEntries r
def uptoBulkEntry {H : Type} : Lit × DataW H → Nat
  | (.string bytes, d) => bytes.length + uptoBulk d + 1
  | (_, d) => uptoBulk d + 1
 end
def uptoSmall : (H : Type) → List (DataW H) → Bool := fun _ ds => decide (uptoBulkAll ds ≤ 1048576)
def OpenSpec.upto (s : _root_.Go.ChangeSpec) : _root_.Go.OpenSpec := { _root_.Go.OpenSpec.ofChange s with cond := some uptoSmall }

/-- 'laws.FnExactConstants', WHERE WHAT IT READS IS OF BULK AT MOST 1048576: true; the input reads as it did. -/
def fnExactConstantsUptoRow : OpenClaim := { program := "ytfodnffdccfleaa", sum := "9eb77abad0c6e6a4969b2d46fdce4c5001b702eaaea366b17ac0c753ac57db6e", func := "loop.example/urnsandballs/laws.FnExactConstants", spec := "fnExactConstants", apart := false, narrowed := true }
def FnExactConstantsUptoSaid : Prop := fnExactConstantsUptoRow.holds Try.pinned (OpenSpec.upto fnExactConstantsSpec)

/-- 'laws.FnExactRisingOf', WHERE WHAT IT READS IS OF BULK AT MOST 1048576: true; the input reads as it did. -/
def fnExactRisingOfUptoRow : OpenClaim := { program := "ytfodnffdccfleaa", sum := "9eb77abad0c6e6a4969b2d46fdce4c5001b702eaaea366b17ac0c753ac57db6e", func := "loop.example/urnsandballs/laws.FnExactRisingOf", spec := "fnExactRisingOf", apart := false, narrowed := true }
def FnExactRisingOfUptoSaid : Prop := fnExactRisingOfUptoRow.holds Try.pinned (OpenSpec.upto fnExactRisingOfSpec)

/-- 'laws.FnExactUrnOk', WHERE WHAT IT READS IS OF BULK AT MOST 1048576: true; the input reads as it did. -/
def fnExactUrnOkUptoRow : OpenClaim := { program := "ytfodnffdccfleaa", sum := "9eb77abad0c6e6a4969b2d46fdce4c5001b702eaaea366b17ac0c753ac57db6e", func := "loop.example/urnsandballs/laws.FnExactUrnOk", spec := "fnExactUrnOk", apart := false, narrowed := true }
def FnExactUrnOkUptoSaid : Prop := fnExactUrnOkUptoRow.holds Try.pinned (OpenSpec.upto fnExactUrnOkSpec)

/-- 'laws.FnExactWordOk', WHERE WHAT IT READS IS OF BULK AT MOST 1048576: true; the input reads as it did. -/
def fnExactWordOkUptoRow : OpenClaim := { program := "ytfodnffdccfleaa", sum := "9eb77abad0c6e6a4969b2d46fdce4c5001b702eaaea366b17ac0c753ac57db6e", func := "loop.example/urnsandballs/laws.FnExactWordOk", spec := "fnExactWordOk", apart := false, narrowed := true }
def FnExactWordOkUptoSaid : Prop := fnExactWordOkUptoRow.holds Try.pinned (OpenSpec.upto fnExactWordOkSpec)

/-- 'laws.FnExactCountRowOk', WHERE WHAT IT READS IS OF BULK AT MOST 1048576: true; the input reads as it did. -/
def fnExactCountRowOkUptoRow : OpenClaim := { program := "ytfodnffdccfleaa", sum := "9eb77abad0c6e6a4969b2d46fdce4c5001b702eaaea366b17ac0c753ac57db6e", func := "loop.example/urnsandballs/laws.FnExactCountRowOk", spec := "fnExactCountRowOk", apart := false, narrowed := true }
def FnExactCountRowOkUptoSaid : Prop := fnExactCountRowOkUptoRow.holds Try.pinned (OpenSpec.upto fnExactCountRowOkSpec)

/-- 'laws.FnAfterWord', WHERE WHAT IT READS IS OF BULK AT MOST 1048576: true; the input reads as it did. -/
def fnAfterWordUptoRow : OpenClaim := { program := "ytfodnffdccfleaa", sum := "9eb77abad0c6e6a4969b2d46fdce4c5001b702eaaea366b17ac0c753ac57db6e", func := "loop.example/urnsandballs/laws.FnAfterWord", spec := "fnAfterWord", apart := false, narrowed := true }
def FnAfterWordUptoSaid : Prop := fnAfterWordUptoRow.holds Try.pinned (OpenSpec.upto fnAfterWordSpec)

/-- 'laws.FnExactStartOk', WHERE WHAT IT READS IS OF BULK AT MOST 1048576: true; the input reads as it did. -/
def fnExactStartOkUptoRow : OpenClaim := { program := "ytfodnffdccfleaa", sum := "9eb77abad0c6e6a4969b2d46fdce4c5001b702eaaea366b17ac0c753ac57db6e", func := "loop.example/urnsandballs/laws.FnExactStartOk", spec := "fnExactStartOk", apart := false, narrowed := true }
def FnExactStartOkUptoSaid : Prop := fnExactStartOkUptoRow.holds Try.pinned (OpenSpec.upto fnExactStartOkSpec)

/-- 'laws.FnExactSameApart', WHERE WHAT IT READS IS OF BULK AT MOST 1048576: true; the input reads as it did. -/
def fnExactSameApartUptoRow : OpenClaim := { program := "ytfodnffdccfleaa", sum := "9eb77abad0c6e6a4969b2d46fdce4c5001b702eaaea366b17ac0c753ac57db6e", func := "loop.example/urnsandballs/laws.FnExactSameApart", spec := "fnExactSameApart", apart := false, narrowed := true }
def FnExactSameApartUptoSaid : Prop := fnExactSameApartUptoRow.holds Try.pinned (OpenSpec.upto fnExactSameApartSpec)

/-- 'laws.FnExactSameTwice', WHERE WHAT IT READS IS OF BULK AT MOST 1048576: true; the input reads as it did. -/
def fnExactSameTwiceUptoRow : OpenClaim := { program := "ytfodnffdccfleaa", sum := "9eb77abad0c6e6a4969b2d46fdce4c5001b702eaaea366b17ac0c753ac57db6e", func := "loop.example/urnsandballs/laws.FnExactSameTwice", spec := "fnExactSameTwice", apart := false, narrowed := true }
def FnExactSameTwiceUptoSaid : Prop := fnExactSameTwiceUptoRow.holds Try.pinned (OpenSpec.upto fnExactSameTwiceSpec)

/-- 'laws.FnUrnOk', WHERE WHAT IT READS IS OF BULK AT MOST 1048576: true; the input reads as it did. -/
def fnUrnOkUptoRow : OpenClaim := { program := "ytfodnffdccfleaa", sum := "9eb77abad0c6e6a4969b2d46fdce4c5001b702eaaea366b17ac0c753ac57db6e", func := "loop.example/urnsandballs/laws.FnUrnOk", spec := "fnUrnOk", apart := false, narrowed := true }
def FnUrnOkUptoSaid : Prop := fnUrnOkUptoRow.holds Try.pinned (OpenSpec.upto fnUrnOkSpec)

end Rows
end Go.Proofs.Ytfodnffdccfleaa
