/-
  No cell of these rows narrows 'for every input' (looked for: loops, veiled, ifaces, maps, wideKeys, modest, calm, conditions, laid).
  DERIVED. THE GIVEN ROWS OF THIS SEAT. 7 by the template 'for every input the law returns true; each argument reads behind the call as it read before'; 0 by the template 'total and deterministic' (their statements: YtjbecmaibifmlaaTotals.lean).
  GIVEN WITH THE SEED: the statements are not yours to turn. If you find one false, say at which input.
  Laid BY PROGRAM, IN A SANDBOX (cutbox-rows.mjs): the forced cells as the released guide's own fill.sh prints them over the translation 5e0d83e9d2b75fc7… (all of the seat's roots in one cut). By AI agents, Wed Nov 11 2026. No macro, syntax, notation, axiom, sorry.
-/
import Derived.Test.YtjbecmaibifmlaaChecked
import GoSem.Claim
import GoSem.ClaimJoined
import GoSem.ClaimMapViews
import Derived.JoinedTies
import Derived.KernelRfl
namespace Go.Proofs.Ytjbecmaibifmlaa
/- THE CELL 'sum', in the pinned program and in every row, IS THE sha256 OF THE DUMP (.gsa) THAT YtjbecmaibifmlaaProg.lean LOADS. Nothing in Lean hashes anything: it is a label: what it is worth is what the hold of that sum in a sandbox is worth. -/
noncomputable def Try.pinned : Pinned := { name := "ytjbecmaibifmlaa", sum := "5e0d83e9d2b75fc7c07f6107bb0ccb34e332e9507afbef0566c2d4e4e45865e4", checked := Try.checked }
namespace Rows
def none {H : Type} : Left H := { results := [], args := [] }

/-- 'laws.FnExactStreamStep': WHATEVER THE INPUT: true; the input reads as it did. -/
def fnExactStreamStepSpec : ChangeSpec := { name := "fnExactStreamStep", fn := fun _ => fun
  | [d1, d2] => { results := [.lit (.bool true)], args := [d1, d2] }
  | _ => none }
def fnExactStreamStepRow : OpenClaim := { program := "ytjbecmaibifmlaa", sum := "5e0d83e9d2b75fc7c07f6107bb0ccb34e332e9507afbef0566c2d4e4e45865e4", func := "loop.example/g00199/laws.FnExactStreamStep", spec := "fnExactStreamStep", apart := false }
def FnExactStreamStepSaid : Prop := fnExactStreamStepRow.holds Try.pinned (OpenSpec.ofChange fnExactStreamStepSpec)

/-- ITS FALSE NEIGHBOUR: 'it returns false'. Refute it at one input. -/
def fnExactStreamStepWrong : ChangeSpec := { name := "fnExactStreamStep", fn := fun _ => fun
  | [d1, d2] => { results := [.lit (.bool false)], args := [d1, d2] }
  | _ => none }
def FnExactStreamStepWrongFalsely : Prop := fnExactStreamStepRow.holds Try.pinned (OpenSpec.ofChange fnExactStreamStepWrong)

/-- 'laws.FnExactMayGet': WHATEVER THE INPUT: true; the input reads as it did. -/
def fnExactMayGetSpec : ChangeSpec := { name := "fnExactMayGet", fn := fun _ => fun
  | [d] => { results := [.lit (.bool true)], args := [d] }
  | _ => none }
def fnExactMayGetRow : OpenClaim := { program := "ytjbecmaibifmlaa", sum := "5e0d83e9d2b75fc7c07f6107bb0ccb34e332e9507afbef0566c2d4e4e45865e4", func := "loop.example/g00199/laws.FnExactMayGet", spec := "fnExactMayGet", apart := false }
def FnExactMayGetSaid : Prop := fnExactMayGetRow.holds Try.pinned (OpenSpec.ofChange fnExactMayGetSpec)

/-- ITS FALSE NEIGHBOUR: 'it returns false'. Refute it at one input. -/
def fnExactMayGetWrong : ChangeSpec := { name := "fnExactMayGet", fn := fun _ => fun
  | [d] => { results := [.lit (.bool false)], args := [d] }
  | _ => none }
def FnExactMayGetWrongFalsely : Prop := fnExactMayGetRow.holds Try.pinned (OpenSpec.ofChange fnExactMayGetWrong)

/-- 'laws.FnExactMayPut': WHATEVER THE INPUT: true; the input reads as it did. -/
def fnExactMayPutSpec : ChangeSpec := { name := "fnExactMayPut", fn := fun _ => fun
  | [d] => { results := [.lit (.bool true)], args := [d] }
  | _ => none }
def fnExactMayPutRow : OpenClaim := { program := "ytjbecmaibifmlaa", sum := "5e0d83e9d2b75fc7c07f6107bb0ccb34e332e9507afbef0566c2d4e4e45865e4", func := "loop.example/g00199/laws.FnExactMayPut", spec := "fnExactMayPut", apart := false }
def FnExactMayPutSaid : Prop := fnExactMayPutRow.holds Try.pinned (OpenSpec.ofChange fnExactMayPutSpec)

/-- ITS FALSE NEIGHBOUR: 'it returns false'. Refute it at one input. -/
def fnExactMayPutWrong : ChangeSpec := { name := "fnExactMayPut", fn := fun _ => fun
  | [d] => { results := [.lit (.bool false)], args := [d] }
  | _ => none }
def FnExactMayPutWrongFalsely : Prop := fnExactMayPutRow.holds Try.pinned (OpenSpec.ofChange fnExactMayPutWrong)

/-- 'laws.FnExactStreamRun': WHATEVER THE INPUT: true; the input reads as it did. -/
def fnExactStreamRunSpec : ChangeSpec := { name := "fnExactStreamRun", fn := fun _ => fun
  | [d] => { results := [.lit (.bool true)], args := [d] }
  | _ => none }
def fnExactStreamRunRow : OpenClaim := { program := "ytjbecmaibifmlaa", sum := "5e0d83e9d2b75fc7c07f6107bb0ccb34e332e9507afbef0566c2d4e4e45865e4", func := "loop.example/g00199/laws.FnExactStreamRun", spec := "fnExactStreamRun", apart := false }
def FnExactStreamRunSaid : Prop := fnExactStreamRunRow.holds Try.pinned (OpenSpec.ofChange fnExactStreamRunSpec)

/-- ITS FALSE NEIGHBOUR: 'it returns false'. Refute it at one input. -/
def fnExactStreamRunWrong : ChangeSpec := { name := "fnExactStreamRun", fn := fun _ => fun
  | [d] => { results := [.lit (.bool false)], args := [d] }
  | _ => none }
def FnExactStreamRunWrongFalsely : Prop := fnExactStreamRunRow.holds Try.pinned (OpenSpec.ofChange fnExactStreamRunWrong)

/-- 'laws.FnStreams': WHATEVER THE INPUT: true; the input reads as it did. -/
def fnStreamsSpec : ChangeSpec := { name := "fnStreams", fn := fun _ => fun
  | [d] => { results := [.lit (.bool true)], args := [d] }
  | _ => none }
def fnStreamsRow : OpenClaim := { program := "ytjbecmaibifmlaa", sum := "5e0d83e9d2b75fc7c07f6107bb0ccb34e332e9507afbef0566c2d4e4e45865e4", func := "loop.example/g00199/laws.FnStreams", spec := "fnStreams", apart := false }
def FnStreamsSaid : Prop := fnStreamsRow.holds Try.pinned (OpenSpec.ofChange fnStreamsSpec)

/-- ITS FALSE NEIGHBOUR: 'it returns false'. Refute it at one input. -/
def fnStreamsWrong : ChangeSpec := { name := "fnStreams", fn := fun _ => fun
  | [d] => { results := [.lit (.bool false)], args := [d] }
  | _ => none }
def FnStreamsWrongFalsely : Prop := fnStreamsRow.holds Try.pinned (OpenSpec.ofChange fnStreamsWrong)

/-- 'laws.FnExactFeed': WHATEVER THE INPUT: true; the input reads as it did. -/
def fnExactFeedSpec : ChangeSpec := { name := "fnExactFeed", fn := fun _ => fun
  | [d1, d2] => { results := [.lit (.bool true)], args := [d1, d2] }
  | _ => none }
def fnExactFeedRow : OpenClaim := { program := "ytjbecmaibifmlaa", sum := "5e0d83e9d2b75fc7c07f6107bb0ccb34e332e9507afbef0566c2d4e4e45865e4", func := "loop.example/g00199/laws.FnExactFeed", spec := "fnExactFeed", apart := false }
def FnExactFeedSaid : Prop := fnExactFeedRow.holds Try.pinned (OpenSpec.ofChange fnExactFeedSpec)

/-- ITS FALSE NEIGHBOUR: 'it returns false'. Refute it at one input. -/
def fnExactFeedWrong : ChangeSpec := { name := "fnExactFeed", fn := fun _ => fun
  | [d1, d2] => { results := [.lit (.bool false)], args := [d1, d2] }
  | _ => none }
def FnExactFeedWrongFalsely : Prop := fnExactFeedRow.holds Try.pinned (OpenSpec.ofChange fnExactFeedWrong)

/-- 'laws.FnGathered': WHATEVER THE INPUT: true; the input reads as it did. -/
def fnGatheredSpec : ChangeSpec := { name := "fnGathered", fn := fun _ => fun
  | [d] => { results := [.lit (.bool true)], args := [d] }
  | _ => none }
def fnGatheredRow : OpenClaim := { program := "ytjbecmaibifmlaa", sum := "5e0d83e9d2b75fc7c07f6107bb0ccb34e332e9507afbef0566c2d4e4e45865e4", func := "loop.example/g00199/laws.FnGathered", spec := "fnGathered", apart := false }
def FnGatheredSaid : Prop := fnGatheredRow.holds Try.pinned (OpenSpec.ofChange fnGatheredSpec)

/-- ITS FALSE NEIGHBOUR: 'it returns false'. Refute it at one input. -/
def fnGatheredWrong : ChangeSpec := { name := "fnGathered", fn := fun _ => fun
  | [d] => { results := [.lit (.bool false)], args := [d] }
  | _ => none }
def FnGatheredWrongFalsely : Prop := fnGatheredRow.holds Try.pinned (OpenSpec.ofChange fnGatheredWrong)

/- THE SECOND FORM. 'bulk': how many values and letters a reading holds, each counted each time it is reached (what is shared counts as often as it is met; a slice's spare places count too). A statement '..UptoSaid' is the law's where the arguments, and the package variables that the reading takes, are together of bulk at most 1048576: NARROWER than '..Said'. Prove '..Said' where nothing that the law and all that it calls make is longer than what came in: it says more and counts as full. Else prove '..UptoSaid'. A law counts once. -/
mutual
def uptoBulk {H : Type} : DataW H → Nat
  | .lit (.string bytes) => bytes.length + 1
  | .lit _ => 1
  | .nil => 1
  | .ptr d => uptoBulk d + 1
  | .slice elems spare => uptoBulkAll elems + uptoBulkAll spare + 1
  | .agg parts => uptoBulkAll parts + 1
  | .iface _ d => uptoBulk d + 1
  | .map entries => uptoBulkEntries entries + 1
  | .held _ => 1
def uptoBulkAll {H : Type} : List (DataW H) → Nat
  | [] => 0
  | d :: r => uptoBulk d + uptoBulkAll r
def uptoBulkEntries {H : Type} : List (Lit × DataW H) → Nat
  | [] => 0
  | x :: r => uptoBulkEntry x + uptoBulkEntries r
def uptoBulkEntry {H : Type} : Lit × DataW H → Nat
  | (.string bytes, d) => bytes.length + uptoBulk d + 1
  | (_, d) => uptoBulk d + 1
 end
def uptoSmall : (H : Type) → List (DataW H) → Bool := fun _ ds => decide (uptoBulkAll ds ≤ 1048576)
def OpenSpec.upto (s : _root_.Go.ChangeSpec) : _root_.Go.OpenSpec := { _root_.Go.OpenSpec.ofChange s with cond := some uptoSmall }

/-- 'laws.FnExactStreamStep', WHERE WHAT IT READS IS OF BULK AT MOST 1048576: true; the input reads as it did. -/
def fnExactStreamStepUptoRow : OpenClaim := { program := "ytjbecmaibifmlaa", sum := "5e0d83e9d2b75fc7c07f6107bb0ccb34e332e9507afbef0566c2d4e4e45865e4", func := "loop.example/g00199/laws.FnExactStreamStep", spec := "fnExactStreamStep", apart := false, narrowed := true }
def FnExactStreamStepUptoSaid : Prop := fnExactStreamStepUptoRow.holds Try.pinned (OpenSpec.upto fnExactStreamStepSpec)

/-- 'laws.FnExactMayGet', WHERE WHAT IT READS IS OF BULK AT MOST 1048576: true; the input reads as it did. -/
def fnExactMayGetUptoRow : OpenClaim := { program := "ytjbecmaibifmlaa", sum := "5e0d83e9d2b75fc7c07f6107bb0ccb34e332e9507afbef0566c2d4e4e45865e4", func := "loop.example/g00199/laws.FnExactMayGet", spec := "fnExactMayGet", apart := false, narrowed := true }
def FnExactMayGetUptoSaid : Prop := fnExactMayGetUptoRow.holds Try.pinned (OpenSpec.upto fnExactMayGetSpec)

/-- 'laws.FnExactMayPut', WHERE WHAT IT READS IS OF BULK AT MOST 1048576: true; the input reads as it did. -/
def fnExactMayPutUptoRow : OpenClaim := { program := "ytjbecmaibifmlaa", sum := "5e0d83e9d2b75fc7c07f6107bb0ccb34e332e9507afbef0566c2d4e4e45865e4", func := "loop.example/g00199/laws.FnExactMayPut", spec := "fnExactMayPut", apart := false, narrowed := true }
def FnExactMayPutUptoSaid : Prop := fnExactMayPutUptoRow.holds Try.pinned (OpenSpec.upto fnExactMayPutSpec)

/-- 'laws.FnExactStreamRun', WHERE WHAT IT READS IS OF BULK AT MOST 1048576: true; the input reads as it did. -/
def fnExactStreamRunUptoRow : OpenClaim := { program := "ytjbecmaibifmlaa", sum := "5e0d83e9d2b75fc7c07f6107bb0ccb34e332e9507afbef0566c2d4e4e45865e4", func := "loop.example/g00199/laws.FnExactStreamRun", spec := "fnExactStreamRun", apart := false, narrowed := true }
def FnExactStreamRunUptoSaid : Prop := fnExactStreamRunUptoRow.holds Try.pinned (OpenSpec.upto fnExactStreamRunSpec)

/-- 'laws.FnStreams', WHERE WHAT IT READS IS OF BULK AT MOST 1048576: true; the input reads as it did. -/
def fnStreamsUptoRow : OpenClaim := { program := "ytjbecmaibifmlaa", sum := "5e0d83e9d2b75fc7c07f6107bb0ccb34e332e9507afbef0566c2d4e4e45865e4", func := "loop.example/g00199/laws.FnStreams", spec := "fnStreams", apart := false, narrowed := true }
def FnStreamsUptoSaid : Prop := fnStreamsUptoRow.holds Try.pinned (OpenSpec.upto fnStreamsSpec)

/-- 'laws.FnExactFeed', WHERE WHAT IT READS IS OF BULK AT MOST 1048576: true; the input reads as it did. -/
def fnExactFeedUptoRow : OpenClaim := { program := "ytjbecmaibifmlaa", sum := "5e0d83e9d2b75fc7c07f6107bb0ccb34e332e9507afbef0566c2d4e4e45865e4", func := "loop.example/g00199/laws.FnExactFeed", spec := "fnExactFeed", apart := false, narrowed := true }
def FnExactFeedUptoSaid : Prop := fnExactFeedUptoRow.holds Try.pinned (OpenSpec.upto fnExactFeedSpec)

/-- 'laws.FnGathered', WHERE WHAT IT READS IS OF BULK AT MOST 1048576: true; the input reads as it did. -/
def fnGatheredUptoRow : OpenClaim := { program := "ytjbecmaibifmlaa", sum := "5e0d83e9d2b75fc7c07f6107bb0ccb34e332e9507afbef0566c2d4e4e45865e4", func := "loop.example/g00199/laws.FnGathered", spec := "fnGathered", apart := false, narrowed := true }
def FnGatheredUptoSaid : Prop := fnGatheredUptoRow.holds Try.pinned (OpenSpec.upto fnGatheredSpec)

end Rows
end Go.Proofs.Ytjbecmaibifmlaa
