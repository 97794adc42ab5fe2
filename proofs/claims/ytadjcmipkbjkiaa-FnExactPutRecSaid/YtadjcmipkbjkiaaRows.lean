/-
  No cell of these rows narrows 'for every input' (looked for: loops, veiled, ifaces, maps, wideKeys, modest, calm, conditions, laid).
  DERIVED. THE GIVEN ROWS OF THIS SEAT. 7 by the template 'for every input the law returns true; each argument reads behind the call as it read before'; 0 by the template 'total and deterministic' (their statements: YtadjcmipkbjkiaaTotals.lean).
  GIVEN WITH THE SEED: the statements are not yours to turn. If you find one false, say at which input.
  Laid BY PROGRAM, IN A SANDBOX (cutbox-rows.mjs): the forced cells as the released guide's own fill.sh prints them over the translation 00c0d27b0060d8b7… (all of the seat's roots in one cut). By AI agents, Wed Nov 11 2026. No macro, syntax, notation, axiom, sorry.
-/
import Derived.Test.YtadjcmipkbjkiaaChecked
import GoSem.Claim
import GoSem.ClaimJoined
import GoSem.ClaimMapViews
import Derived.JoinedTies
import Derived.KernelRfl
namespace Go.Proofs.Ytadjcmipkbjkiaa
/- THE CELL 'sum', in the pinned program and in every row, IS THE sha256 OF THE DUMP (.gsa) THAT YtadjcmipkbjkiaaProg.lean LOADS. Nothing in Lean hashes anything: it is a label: what it is worth is what the hold of that sum in a sandbox is worth. -/
noncomputable def Try.pinned : Pinned := { name := "ytadjcmipkbjkiaa", sum := "00c0d27b0060d8b7a7301251289ff26e105d094f87d1a842605a2cd0de577329", checked := Try.checked }
namespace Rows
def none {H : Type} : Left H := { results := [], args := [] }

/-- 'laws.FnExactRecOk': WHATEVER THE INPUT: true; the input reads as it did. -/
def fnExactRecOkSpec : ChangeSpec := { name := "fnExactRecOk", fn := fun _ => fun
  | [d] => { results := [.lit (.bool true)], args := [d] }
  | _ => none }
def fnExactRecOkRow : OpenClaim := { program := "ytadjcmipkbjkiaa", sum := "00c0d27b0060d8b7a7301251289ff26e105d094f87d1a842605a2cd0de577329", func := "loop.example/g00199/laws.FnExactRecOk", spec := "fnExactRecOk", apart := false }
def FnExactRecOkSaid : Prop := fnExactRecOkRow.holds Try.pinned (OpenSpec.ofChange fnExactRecOkSpec)

/-- ITS FALSE NEIGHBOUR: 'it returns false'. Refute it at one input. -/
def fnExactRecOkWrong : ChangeSpec := { name := "fnExactRecOk", fn := fun _ => fun
  | [d] => { results := [.lit (.bool false)], args := [d] }
  | _ => none }
def FnExactRecOkWrongFalsely : Prop := fnExactRecOkRow.holds Try.pinned (OpenSpec.ofChange fnExactRecOkWrong)

/-- 'laws.FnExactPutRec': WHATEVER THE INPUT: true; the input reads as it did. -/
def fnExactPutRecSpec : ChangeSpec := { name := "fnExactPutRec", fn := fun _ => fun
  | [d] => { results := [.lit (.bool true)], args := [d] }
  | _ => none }
def fnExactPutRecRow : OpenClaim := { program := "ytadjcmipkbjkiaa", sum := "00c0d27b0060d8b7a7301251289ff26e105d094f87d1a842605a2cd0de577329", func := "loop.example/g00199/laws.FnExactPutRec", spec := "fnExactPutRec", apart := false }
def FnExactPutRecSaid : Prop := fnExactPutRecRow.holds Try.pinned (OpenSpec.ofChange fnExactPutRecSpec)

/-- ITS FALSE NEIGHBOUR: 'it returns false'. Refute it at one input. -/
def fnExactPutRecWrong : ChangeSpec := { name := "fnExactPutRec", fn := fun _ => fun
  | [d] => { results := [.lit (.bool false)], args := [d] }
  | _ => none }
def FnExactPutRecWrongFalsely : Prop := fnExactPutRecRow.holds Try.pinned (OpenSpec.ofChange fnExactPutRecWrong)

/-- 'laws.FnRecords': WHATEVER THE INPUT: true; the input reads as it did. -/
def fnRecordsSpec : ChangeSpec := { name := "fnRecords", fn := fun _ => fun
  | [d] => { results := [.lit (.bool true)], args := [d] }
  | _ => none }
def fnRecordsRow : OpenClaim := { program := "ytadjcmipkbjkiaa", sum := "00c0d27b0060d8b7a7301251289ff26e105d094f87d1a842605a2cd0de577329", func := "loop.example/g00199/laws.FnRecords", spec := "fnRecords", apart := false }
def FnRecordsSaid : Prop := fnRecordsRow.holds Try.pinned (OpenSpec.ofChange fnRecordsSpec)

/-- ITS FALSE NEIGHBOUR: 'it returns false'. Refute it at one input. -/
def fnRecordsWrong : ChangeSpec := { name := "fnRecords", fn := fun _ => fun
  | [d] => { results := [.lit (.bool false)], args := [d] }
  | _ => none }
def FnRecordsWrongFalsely : Prop := fnRecordsRow.holds Try.pinned (OpenSpec.ofChange fnRecordsWrong)

/-- 'laws.FnExactGetRec': WHATEVER THE INPUT: true; the input reads as it did. -/
def fnExactGetRecSpec : ChangeSpec := { name := "fnExactGetRec", fn := fun _ => fun
  | [d] => { results := [.lit (.bool true)], args := [d] }
  | _ => none }
def fnExactGetRecRow : OpenClaim := { program := "ytadjcmipkbjkiaa", sum := "00c0d27b0060d8b7a7301251289ff26e105d094f87d1a842605a2cd0de577329", func := "loop.example/g00199/laws.FnExactGetRec", spec := "fnExactGetRec", apart := false }
def FnExactGetRecSaid : Prop := fnExactGetRecRow.holds Try.pinned (OpenSpec.ofChange fnExactGetRecSpec)

/-- ITS FALSE NEIGHBOUR: 'it returns false'. Refute it at one input. -/
def fnExactGetRecWrong : ChangeSpec := { name := "fnExactGetRec", fn := fun _ => fun
  | [d] => { results := [.lit (.bool false)], args := [d] }
  | _ => none }
def FnExactGetRecWrongFalsely : Prop := fnExactGetRecRow.holds Try.pinned (OpenSpec.ofChange fnExactGetRecWrong)

/-- 'laws.FnExactTopEpoch': WHATEVER THE INPUT: true; the input reads as it did. -/
def fnExactTopEpochSpec : ChangeSpec := { name := "fnExactTopEpoch", fn := fun _ => fun
  | [d] => { results := [.lit (.bool true)], args := [d] }
  | _ => none }
def fnExactTopEpochRow : OpenClaim := { program := "ytadjcmipkbjkiaa", sum := "00c0d27b0060d8b7a7301251289ff26e105d094f87d1a842605a2cd0de577329", func := "loop.example/g00199/laws.FnExactTopEpoch", spec := "fnExactTopEpoch", apart := false }
def FnExactTopEpochSaid : Prop := fnExactTopEpochRow.holds Try.pinned (OpenSpec.ofChange fnExactTopEpochSpec)

/-- ITS FALSE NEIGHBOUR: 'it returns false'. Refute it at one input. -/
def fnExactTopEpochWrong : ChangeSpec := { name := "fnExactTopEpoch", fn := fun _ => fun
  | [d] => { results := [.lit (.bool false)], args := [d] }
  | _ => none }
def FnExactTopEpochWrongFalsely : Prop := fnExactTopEpochRow.holds Try.pinned (OpenSpec.ofChange fnExactTopEpochWrong)

/-- 'laws.FnScanned': WHATEVER THE INPUT: true; the input reads as it did. -/
def fnScannedSpec : ChangeSpec := { name := "fnScanned", fn := fun _ => fun
  | [d] => { results := [.lit (.bool true)], args := [d] }
  | _ => none }
def fnScannedRow : OpenClaim := { program := "ytadjcmipkbjkiaa", sum := "00c0d27b0060d8b7a7301251289ff26e105d094f87d1a842605a2cd0de577329", func := "loop.example/g00199/laws.FnScanned", spec := "fnScanned", apart := false }
def FnScannedSaid : Prop := fnScannedRow.holds Try.pinned (OpenSpec.ofChange fnScannedSpec)

/-- ITS FALSE NEIGHBOUR: 'it returns false'. Refute it at one input. -/
def fnScannedWrong : ChangeSpec := { name := "fnScanned", fn := fun _ => fun
  | [d] => { results := [.lit (.bool false)], args := [d] }
  | _ => none }
def FnScannedWrongFalsely : Prop := fnScannedRow.holds Try.pinned (OpenSpec.ofChange fnScannedWrong)

/-- 'laws.FnExactScanRecs': WHATEVER THE INPUT: true; the input reads as it did. -/
def fnExactScanRecsSpec : ChangeSpec := { name := "fnExactScanRecs", fn := fun _ => fun
  | [d] => { results := [.lit (.bool true)], args := [d] }
  | _ => none }
def fnExactScanRecsRow : OpenClaim := { program := "ytadjcmipkbjkiaa", sum := "00c0d27b0060d8b7a7301251289ff26e105d094f87d1a842605a2cd0de577329", func := "loop.example/g00199/laws.FnExactScanRecs", spec := "fnExactScanRecs", apart := false }
def FnExactScanRecsSaid : Prop := fnExactScanRecsRow.holds Try.pinned (OpenSpec.ofChange fnExactScanRecsSpec)

/-- ITS FALSE NEIGHBOUR: 'it returns false'. Refute it at one input. -/
def fnExactScanRecsWrong : ChangeSpec := { name := "fnExactScanRecs", fn := fun _ => fun
  | [d] => { results := [.lit (.bool false)], args := [d] }
  | _ => none }
def FnExactScanRecsWrongFalsely : Prop := fnExactScanRecsRow.holds Try.pinned (OpenSpec.ofChange fnExactScanRecsWrong)

/- THE SECOND FORM. 'bulk': how many values and letters a reading holds, each counted each time it is reached (what is shared counts as often as it is met; a slice's spare places count too). A statement '..UptoSaid' is the law's where the arguments, and the package variables that the reading takes, are together of bulk at most 1048576: NARROWER than '..Said'. Prove '..Said' where nothing that the law and all that it calls make is longer than what came in: it says more and counts as full. Else prove '..UptoSaid'. A law counts once. -/
mutual
def uptoBulk {H : Type} : DataW H → Nat
  | .lit (.string bytes) => bytes.length + 1
  | .lit _ => 1
  | .nil => 1
  | .ptr d => uptoBulk d + 1
  | .slice elems spare => uptoBulkAll elems + uptoBulkAll spare + 1
  | .agg parts => uptoBulkAll parts + 1
  | .iface _ d => uptoBulk d + 1
  | .map entries => uptoBulkEntries entries + 1
  | .held _ => 1
def uptoBulkAll {H : Type} : List (DataW H) → Nat
  | [] => 0
  | d :: r => uptoBulk d + uptoBulkAll r
def uptoBulkEntries {H : Type} : List (Lit × DataW H) → Nat
  | [] => 0
  | x :: r => uptoBulkEntry x + uptoBulkEntries r
def uptoBulkEntry {H : Type} : Lit × DataW H → Nat
  | (.string bytes, d) => bytes.length + uptoBulk d + 1
  | (_, d) => uptoBulk d + 1
 end
def uptoSmall : (H : Type) → List (DataW H) → Bool := fun _ ds => decide (uptoBulkAll ds ≤ 1048576)
def OpenSpec.upto (s : _root_.Go.ChangeSpec) : _root_.Go.OpenSpec := { _root_.Go.OpenSpec.ofChange s with cond := some uptoSmall }

/-- 'laws.FnExactRecOk', WHERE WHAT IT READS IS OF BULK AT MOST 1048576: true; the input reads as it did. -/
def fnExactRecOkUptoRow : OpenClaim := { program := "ytadjcmipkbjkiaa", sum := "00c0d27b0060d8b7a7301251289ff26e105d094f87d1a842605a2cd0de577329", func := "loop.example/g00199/laws.FnExactRecOk", spec := "fnExactRecOk", apart := false, narrowed := true }
def FnExactRecOkUptoSaid : Prop := fnExactRecOkUptoRow.holds Try.pinned (OpenSpec.upto fnExactRecOkSpec)

/-- 'laws.FnExactPutRec', WHERE WHAT IT READS IS OF BULK AT MOST 1048576: true; the input reads as it did. -/
def fnExactPutRecUptoRow : OpenClaim := { program := "ytadjcmipkbjkiaa", sum := "00c0d27b0060d8b7a7301251289ff26e105d094f87d1a842605a2cd0de577329", func := "loop.example/g00199/laws.FnExactPutRec", spec := "fnExactPutRec", apart := false, narrowed := true }
def FnExactPutRecUptoSaid : Prop := fnExactPutRecUptoRow.holds Try.pinned (OpenSpec.upto fnExactPutRecSpec)

/-- 'laws.FnRecords', WHERE WHAT IT READS IS OF BULK AT MOST 1048576: true; the input reads as it did. -/
def fnRecordsUptoRow : OpenClaim := { program := "ytadjcmipkbjkiaa", sum := "00c0d27b0060d8b7a7301251289ff26e105d094f87d1a842605a2cd0de577329", func := "loop.example/g00199/laws.FnRecords", spec := "fnRecords", apart := false, narrowed := true }
def FnRecordsUptoSaid : Prop := fnRecordsUptoRow.holds Try.pinned (OpenSpec.upto fnRecordsSpec)

/-- 'laws.FnExactGetRec', WHERE WHAT IT READS IS OF BULK AT MOST 1048576: true; the input reads as it did. -/
def fnExactGetRecUptoRow : OpenClaim := { program := "ytadjcmipkbjkiaa", sum := "00c0d27b0060d8b7a7301251289ff26e105d094f87d1a842605a2cd0de577329", func := "loop.example/g00199/laws.FnExactGetRec", spec := "fnExactGetRec", apart := false, narrowed := true }
def FnExactGetRecUptoSaid : Prop := fnExactGetRecUptoRow.holds Try.pinned (OpenSpec.upto fnExactGetRecSpec)

/-- 'laws.FnExactTopEpoch', WHERE WHAT IT READS IS OF BULK AT MOST 1048576: true; the input reads as it did. -/
def fnExactTopEpochUptoRow : OpenClaim := { program := "ytadjcmipkbjkiaa", sum := "00c0d27b0060d8b7a7301251289ff26e105d094f87d1a842605a2cd0de577329", func := "loop.example/g00199/laws.FnExactTopEpoch", spec := "fnExactTopEpoch", apart := false, narrowed := true }
def FnExactTopEpochUptoSaid : Prop := fnExactTopEpochUptoRow.holds Try.pinned (OpenSpec.upto fnExactTopEpochSpec)

/-- 'laws.FnScanned', WHERE WHAT IT READS IS OF BULK AT MOST 1048576: true; the input reads as it did. -/
def fnScannedUptoRow : OpenClaim := { program := "ytadjcmipkbjkiaa", sum := "00c0d27b0060d8b7a7301251289ff26e105d094f87d1a842605a2cd0de577329", func := "loop.example/g00199/laws.FnScanned", spec := "fnScanned", apart := false, narrowed := true }
def FnScannedUptoSaid : Prop := fnScannedUptoRow.holds Try.pinned (OpenSpec.upto fnScannedSpec)

/-- 'laws.FnExactScanRecs', WHERE WHAT IT READS IS OF BULK AT MOST 1048576: true; the input reads as it did. -/
def fnExactScanRecsUptoRow : OpenClaim := { program := "ytadjcmipkbjkiaa", sum := "00c0d27b0060d8b7a7301251289ff26e105d094f87d1a842605a2cd0de577329", func := "loop.example/g00199/laws.FnExactScanRecs", spec := "fnExactScanRecs", apart := false, narrowed := true }
def FnExactScanRecsUptoSaid : Prop := fnExactScanRecsUptoRow.holds Try.pinned (OpenSpec.upto fnExactScanRecsSpec)

end Rows
end Go.Proofs.Ytadjcmipkbjkiaa
