/-
  No cell of these rows narrows 'for every input' (looked for: loops, veiled, ifaces, maps, wideKeys, modest, calm, conditions, laid).
  DERIVED. THE GIVEN ROWS OF THIS SEAT. 12 by the template 'for every input the law returns true; each argument reads behind the call as it read before'; 0 by the template 'total and deterministic' (their statements: YtbkpmljdmlhmhaaTotals.lean).
  GIVEN WITH THE SEED: the statements are not yours to turn. If you find one false, say at which input.
  Laid BY PROGRAM, IN A SANDBOX (cutbox-rows.mjs): the forced cells as the released guide's own fill.sh prints them over the translation c0a6ee751225e6d8… (all of the seat's roots in one cut). By AI agents, Wed Nov 11 2026. No macro, syntax, notation, axiom, sorry.
-/
import Derived.Test.YtbkpmljdmlhmhaaChecked
import GoSem.Claim
import GoSem.ClaimJoined
import GoSem.ClaimMapViews
import Derived.JoinedTies
import Derived.KernelRfl
namespace Go.Proofs.Ytbkpmljdmlhmhaa
/- THE CELL 'sum', in the pinned program and in every row, IS THE sha256 OF THE DUMP (.gsa) THAT YtbkpmljdmlhmhaaProg.lean LOADS. Nothing in Lean hashes anything: it is a label: what it is worth is what the hold of that sum in a sandbox is worth. -/
noncomputable def Try.pinned : Pinned := { name := "ytbkpmljdmlhmhaa", sum := "c0a6ee751225e6d89d0026de65a7b5027ac0c3ccc97428f4801371014acd6de7", checked := Try.checked }
namespace Rows
def none {H : Type} : Left H := { results := [], args := [] }

/-- 'laws.FnRecords': WHATEVER THE INPUT: true; the input reads as it did. -/
def fnRecordsSpec : ChangeSpec := { name := "fnRecords", fn := fun _ => fun
  | [d] => { results := [.lit (.bool true)], args := [d] }
  | _ => none }
def fnRecordsRow : OpenClaim := { program := "ytbkpmljdmlhmhaa", sum := "c0a6ee751225e6d89d0026de65a7b5027ac0c3ccc97428f4801371014acd6de7", func := "loop.example/g00199/laws.FnRecords", spec := "fnRecords", apart := false }
def FnRecordsSaid : Prop := fnRecordsRow.holds Try.pinned (OpenSpec.ofChange fnRecordsSpec)

/-- ITS FALSE NEIGHBOUR: 'it returns false'. Refute it at one input. -/
def fnRecordsWrong : ChangeSpec := { name := "fnRecords", fn := fun _ => fun
  | [d] => { results := [.lit (.bool false)], args := [d] }
  | _ => none }
def FnRecordsWrongFalsely : Prop := fnRecordsRow.holds Try.pinned (OpenSpec.ofChange fnRecordsWrong)

/-- 'laws.FnExactGetRec': WHATEVER THE INPUT: true; the input reads as it did. -/
def fnExactGetRecSpec : ChangeSpec := { name := "fnExactGetRec", fn := fun _ => fun
  | [d] => { results := [.lit (.bool true)], args := [d] }
  | _ => none }
def fnExactGetRecRow : OpenClaim := { program := "ytbkpmljdmlhmhaa", sum := "c0a6ee751225e6d89d0026de65a7b5027ac0c3ccc97428f4801371014acd6de7", func := "loop.example/g00199/laws.FnExactGetRec", spec := "fnExactGetRec", apart := false }
def FnExactGetRecSaid : Prop := fnExactGetRecRow.holds Try.pinned (OpenSpec.ofChange fnExactGetRecSpec)

/-- ITS FALSE NEIGHBOUR: 'it returns false'. Refute it at one input. -/
def fnExactGetRecWrong : ChangeSpec := { name := "fnExactGetRec", fn := fun _ => fun
  | [d] => { results := [.lit (.bool false)], args := [d] }
  | _ => none }
def FnExactGetRecWrongFalsely : Prop := fnExactGetRecRow.holds Try.pinned (OpenSpec.ofChange fnExactGetRecWrong)

/-- 'laws.FnExactTopEpoch': WHATEVER THE INPUT: true; the input reads as it did. -/
def fnExactTopEpochSpec : ChangeSpec := { name := "fnExactTopEpoch", fn := fun _ => fun
  | [d] => { results := [.lit (.bool true)], args := [d] }
  | _ => none }
def fnExactTopEpochRow : OpenClaim := { program := "ytbkpmljdmlhmhaa", sum := "c0a6ee751225e6d89d0026de65a7b5027ac0c3ccc97428f4801371014acd6de7", func := "loop.example/g00199/laws.FnExactTopEpoch", spec := "fnExactTopEpoch", apart := false }
def FnExactTopEpochSaid : Prop := fnExactTopEpochRow.holds Try.pinned (OpenSpec.ofChange fnExactTopEpochSpec)

/-- ITS FALSE NEIGHBOUR: 'it returns false'. Refute it at one input. -/
def fnExactTopEpochWrong : ChangeSpec := { name := "fnExactTopEpoch", fn := fun _ => fun
  | [d] => { results := [.lit (.bool false)], args := [d] }
  | _ => none }
def FnExactTopEpochWrongFalsely : Prop := fnExactTopEpochRow.holds Try.pinned (OpenSpec.ofChange fnExactTopEpochWrong)

/-- 'laws.FnExactUpAt': WHATEVER THE INPUT: true; the input reads as it did. -/
def fnExactUpAtSpec : ChangeSpec := { name := "fnExactUpAt", fn := fun _ => fun
  | [d1, d2] => { results := [.lit (.bool true)], args := [d1, d2] }
  | _ => none }
def fnExactUpAtRow : OpenClaim := { program := "ytbkpmljdmlhmhaa", sum := "c0a6ee751225e6d89d0026de65a7b5027ac0c3ccc97428f4801371014acd6de7", func := "loop.example/g00199/laws.FnExactUpAt", spec := "fnExactUpAt", apart := false }
def FnExactUpAtSaid : Prop := fnExactUpAtRow.holds Try.pinned (OpenSpec.ofChange fnExactUpAtSpec)

/-- ITS FALSE NEIGHBOUR: 'it returns false'. Refute it at one input. -/
def fnExactUpAtWrong : ChangeSpec := { name := "fnExactUpAt", fn := fun _ => fun
  | [d1, d2] => { results := [.lit (.bool false)], args := [d1, d2] }
  | _ => none }
def FnExactUpAtWrongFalsely : Prop := fnExactUpAtRow.holds Try.pinned (OpenSpec.ofChange fnExactUpAtWrong)

/-- 'laws.FnScanned': WHATEVER THE INPUT: true; the input reads as it did. -/
def fnScannedSpec : ChangeSpec := { name := "fnScanned", fn := fun _ => fun
  | [d] => { results := [.lit (.bool true)], args := [d] }
  | _ => none }
def fnScannedRow : OpenClaim := { program := "ytbkpmljdmlhmhaa", sum := "c0a6ee751225e6d89d0026de65a7b5027ac0c3ccc97428f4801371014acd6de7", func := "loop.example/g00199/laws.FnScanned", spec := "fnScanned", apart := false }
def FnScannedSaid : Prop := fnScannedRow.holds Try.pinned (OpenSpec.ofChange fnScannedSpec)

/-- ITS FALSE NEIGHBOUR: 'it returns false'. Refute it at one input. -/
def fnScannedWrong : ChangeSpec := { name := "fnScanned", fn := fun _ => fun
  | [d] => { results := [.lit (.bool false)], args := [d] }
  | _ => none }
def FnScannedWrongFalsely : Prop := fnScannedRow.holds Try.pinned (OpenSpec.ofChange fnScannedWrong)

/-- 'laws.FnExactScanRecs': WHATEVER THE INPUT: true; the input reads as it did. -/
def fnExactScanRecsSpec : ChangeSpec := { name := "fnExactScanRecs", fn := fun _ => fun
  | [d] => { results := [.lit (.bool true)], args := [d] }
  | _ => none }
def fnExactScanRecsRow : OpenClaim := { program := "ytbkpmljdmlhmhaa", sum := "c0a6ee751225e6d89d0026de65a7b5027ac0c3ccc97428f4801371014acd6de7", func := "loop.example/g00199/laws.FnExactScanRecs", spec := "fnExactScanRecs", apart := false }
def FnExactScanRecsSaid : Prop := fnExactScanRecsRow.holds Try.pinned (OpenSpec.ofChange fnExactScanRecsSpec)

/-- ITS FALSE NEIGHBOUR: 'it returns false'. Refute it at one input. -/
def fnExactScanRecsWrong : ChangeSpec := { name := "fnExactScanRecs", fn := fun _ => fun
  | [d] => { results := [.lit (.bool false)], args := [d] }
  | _ => none }
def FnExactScanRecsWrongFalsely : Prop := fnExactScanRecsRow.holds Try.pinned (OpenSpec.ofChange fnExactScanRecsWrong)

/-- 'laws.FnExactFoldRecs': WHATEVER THE INPUT: true; the input reads as it did. -/
def fnExactFoldRecsSpec : ChangeSpec := { name := "fnExactFoldRecs", fn := fun _ => fun
  | [d] => { results := [.lit (.bool true)], args := [d] }
  | _ => none }
def fnExactFoldRecsRow : OpenClaim := { program := "ytbkpmljdmlhmhaa", sum := "c0a6ee751225e6d89d0026de65a7b5027ac0c3ccc97428f4801371014acd6de7", func := "loop.example/g00199/laws.FnExactFoldRecs", spec := "fnExactFoldRecs", inPlace := ["slices.overlaps[loop.example/g00199/impl.Up]"], apart := false }
def FnExactFoldRecsSaid : Prop := fnExactFoldRecsRow.holds Try.pinned (OpenSpec.ofChange fnExactFoldRecsSpec)

/-- ITS FALSE NEIGHBOUR: 'it returns false'. Refute it at one input. -/
def fnExactFoldRecsWrong : ChangeSpec := { name := "fnExactFoldRecs", fn := fun _ => fun
  | [d] => { results := [.lit (.bool false)], args := [d] }
  | _ => none }
def FnExactFoldRecsWrongFalsely : Prop := fnExactFoldRecsRow.holds Try.pinned (OpenSpec.ofChange fnExactFoldRecsWrong)

/-- 'laws.FnFolded': WHATEVER THE INPUT: true; the input reads as it did. -/
def fnFoldedSpec : ChangeSpec := { name := "fnFolded", fn := fun _ => fun
  | [d] => { results := [.lit (.bool true)], args := [d] }
  | _ => none }
def fnFoldedRow : OpenClaim := { program := "ytbkpmljdmlhmhaa", sum := "c0a6ee751225e6d89d0026de65a7b5027ac0c3ccc97428f4801371014acd6de7", func := "loop.example/g00199/laws.FnFolded", spec := "fnFolded", inPlace := ["slices.overlaps[loop.example/g00199/impl.Up]"], apart := false }
def FnFoldedSaid : Prop := fnFoldedRow.holds Try.pinned (OpenSpec.ofChange fnFoldedSpec)

/-- ITS FALSE NEIGHBOUR: 'it returns false'. Refute it at one input. -/
def fnFoldedWrong : ChangeSpec := { name := "fnFolded", fn := fun _ => fun
  | [d] => { results := [.lit (.bool false)], args := [d] }
  | _ => none }
def FnFoldedWrongFalsely : Prop := fnFoldedRow.holds Try.pinned (OpenSpec.ofChange fnFoldedWrong)

/-- 'laws.FnExactStoreOk': WHATEVER THE INPUT: true; the input reads as it did. -/
def fnExactStoreOkSpec : ChangeSpec := { name := "fnExactStoreOk", fn := fun _ => fun
  | [d] => { results := [.lit (.bool true)], args := [d] }
  | _ => none }
def fnExactStoreOkRow : OpenClaim := { program := "ytbkpmljdmlhmhaa", sum := "c0a6ee751225e6d89d0026de65a7b5027ac0c3ccc97428f4801371014acd6de7", func := "loop.example/g00199/laws.FnExactStoreOk", spec := "fnExactStoreOk", inPlace := ["slices.overlaps[loop.example/g00199/impl.Up]"], unfollowed := true, recurses := true, apart := false }
def FnExactStoreOkSaid : Prop := fnExactStoreOkRow.holds Try.pinned (OpenSpec.ofChange fnExactStoreOkSpec)

/-- ITS FALSE NEIGHBOUR: 'it returns false'. Refute it at one input. -/
def fnExactStoreOkWrong : ChangeSpec := { name := "fnExactStoreOk", fn := fun _ => fun
  | [d] => { results := [.lit (.bool false)], args := [d] }
  | _ => none }
def FnExactStoreOkWrongFalsely : Prop := fnExactStoreOkRow.holds Try.pinned (OpenSpec.ofChange fnExactStoreOkWrong)

/-- 'laws.FnExactOpenStore': WHATEVER THE INPUT: true; the input reads as it did. -/
def fnExactOpenStoreSpec : ChangeSpec := { name := "fnExactOpenStore", fn := fun _ => fun
  | [d] => { results := [.lit (.bool true)], args := [d] }
  | _ => none }
def fnExactOpenStoreRow : OpenClaim := { program := "ytbkpmljdmlhmhaa", sum := "c0a6ee751225e6d89d0026de65a7b5027ac0c3ccc97428f4801371014acd6de7", func := "loop.example/g00199/laws.FnExactOpenStore", spec := "fnExactOpenStore", inPlace := ["slices.overlaps[loop.example/g00199/impl.Up]"], apart := false }
def FnExactOpenStoreSaid : Prop := fnExactOpenStoreRow.holds Try.pinned (OpenSpec.ofChange fnExactOpenStoreSpec)

/-- ITS FALSE NEIGHBOUR: 'it returns false'. Refute it at one input. -/
def fnExactOpenStoreWrong : ChangeSpec := { name := "fnExactOpenStore", fn := fun _ => fun
  | [d] => { results := [.lit (.bool false)], args := [d] }
  | _ => none }
def FnExactOpenStoreWrongFalsely : Prop := fnExactOpenStoreRow.holds Try.pinned (OpenSpec.ofChange fnExactOpenStoreWrong)

/-- 'laws.FnExactSyncStore': WHATEVER THE INPUT: true; the input reads as it did. -/
def fnExactSyncStoreSpec : ChangeSpec := { name := "fnExactSyncStore", fn := fun _ => fun
  | [d] => { results := [.lit (.bool true)], args := [d] }
  | _ => none }
def fnExactSyncStoreRow : OpenClaim := { program := "ytbkpmljdmlhmhaa", sum := "c0a6ee751225e6d89d0026de65a7b5027ac0c3ccc97428f4801371014acd6de7", func := "loop.example/g00199/laws.FnExactSyncStore", spec := "fnExactSyncStore", inPlace := ["slices.overlaps[loop.example/g00199/impl.Up]"], unfollowed := true, recurses := true, apart := false }
def FnExactSyncStoreSaid : Prop := fnExactSyncStoreRow.holds Try.pinned (OpenSpec.ofChange fnExactSyncStoreSpec)

/-- ITS FALSE NEIGHBOUR: 'it returns false'. Refute it at one input. -/
def fnExactSyncStoreWrong : ChangeSpec := { name := "fnExactSyncStore", fn := fun _ => fun
  | [d] => { results := [.lit (.bool false)], args := [d] }
  | _ => none }
def FnExactSyncStoreWrongFalsely : Prop := fnExactSyncStoreRow.holds Try.pinned (OpenSpec.ofChange fnExactSyncStoreWrong)

/-- 'laws.FnExactDropUp': WHATEVER THE INPUT: true; the input reads as it did. -/
def fnExactDropUpSpec : ChangeSpec := { name := "fnExactDropUp", fn := fun _ => fun
  | [d1, d2] => { results := [.lit (.bool true)], args := [d1, d2] }
  | _ => none }
def fnExactDropUpRow : OpenClaim := { program := "ytbkpmljdmlhmhaa", sum := "c0a6ee751225e6d89d0026de65a7b5027ac0c3ccc97428f4801371014acd6de7", func := "loop.example/g00199/laws.FnExactDropUp", spec := "fnExactDropUp", inPlace := ["slices.overlaps[loop.example/g00199/impl.Up]"], unfollowed := true, recurses := true, apart := false }
def FnExactDropUpSaid : Prop := fnExactDropUpRow.holds Try.pinned (OpenSpec.ofChange fnExactDropUpSpec)

/-- ITS FALSE NEIGHBOUR: 'it returns false'. Refute it at one input. -/
def fnExactDropUpWrong : ChangeSpec := { name := "fnExactDropUp", fn := fun _ => fun
  | [d1, d2] => { results := [.lit (.bool false)], args := [d1, d2] }
  | _ => none }
def FnExactDropUpWrongFalsely : Prop := fnExactDropUpRow.holds Try.pinned (OpenSpec.ofChange fnExactDropUpWrong)

/- THE SECOND FORM. 'bulk': how many values and letters a reading holds, each counted each time it is reached (what is shared counts as often as it is met; a slice's spare places count too). A statement '..UptoSaid' is the law's where the arguments, and the package variables that the reading takes, are together of bulk at most 1048576: NARROWER than '..Said'. Prove '..Said' where nothing that the law and all that it calls make is longer than what came in: it says more and counts as full. Else prove '..UptoSaid'. A law counts once. -/
mutual
def uptoBulk {H : Type} : DataW H → Nat
  | .lit (.string bytes) => bytes.length + 1
  | .lit _ => 1
  | .nil => 1
  | .ptr d => uptoBulk d + 1
  | .slice elems spare => uptoBulkAll elems + uptoBulkAll spare + 1
  | .agg parts => uptoBulkAll parts + 1
  | .iface _ d => uptoBulk d + 1
  | .map entries => uptoBulkEntries entries + 1
  | .held _ => 1
def uptoBulkAll {H : Type} : List (DataW H) → Nat
  | [] => 0
  | d :: r => uptoBulk d + uptoBulkAll r
def uptoBulkEntries {H : Type} : List (Lit × DataW H) → Nat
  | [] => 0
  | x :: r => uptoBulkEntry x + uptoBulkEntries r
def uptoBulkEntry {H : Type} : Lit × DataW H → Nat
  | (.string bytes, d) => bytes.length + uptoBulk d + 1
  | (_, d) => uptoBulk d + 1
 end
def uptoSmall : (H : Type) → List (DataW H) → Bool := fun _ ds => decide (uptoBulkAll ds ≤ 1048576)
def OpenSpec.upto (s : _root_.Go.ChangeSpec) : _root_.Go.OpenSpec := { _root_.Go.OpenSpec.ofChange s with cond := some uptoSmall }

/-- 'laws.FnRecords', WHERE WHAT IT READS IS OF BULK AT MOST 1048576: true; the input reads as it did. -/
def fnRecordsUptoRow : OpenClaim := { program := "ytbkpmljdmlhmhaa", sum := "c0a6ee751225e6d89d0026de65a7b5027ac0c3ccc97428f4801371014acd6de7", func := "loop.example/g00199/laws.FnRecords", spec := "fnRecords", apart := false, narrowed := true }
def FnRecordsUptoSaid : Prop := fnRecordsUptoRow.holds Try.pinned (OpenSpec.upto fnRecordsSpec)

/-- 'laws.FnExactGetRec', WHERE WHAT IT READS IS OF BULK AT MOST 1048576: true; the input reads as it did. -/
def fnExactGetRecUptoRow : OpenClaim := { program := "ytbkpmljdmlhmhaa", sum := "c0a6ee751225e6d89d0026de65a7b5027ac0c3ccc97428f4801371014acd6de7", func := "loop.example/g00199/laws.FnExactGetRec", spec := "fnExactGetRec", apart := false, narrowed := true }
def FnExactGetRecUptoSaid : Prop := fnExactGetRecUptoRow.holds Try.pinned (OpenSpec.upto fnExactGetRecSpec)

/-- 'laws.FnExactTopEpoch', WHERE WHAT IT READS IS OF BULK AT MOST 1048576: true; the input reads as it did. -/
def fnExactTopEpochUptoRow : OpenClaim := { program := "ytbkpmljdmlhmhaa", sum := "c0a6ee751225e6d89d0026de65a7b5027ac0c3ccc97428f4801371014acd6de7", func := "loop.example/g00199/laws.FnExactTopEpoch", spec := "fnExactTopEpoch", apart := false, narrowed := true }
def FnExactTopEpochUptoSaid : Prop := fnExactTopEpochUptoRow.holds Try.pinned (OpenSpec.upto fnExactTopEpochSpec)

/-- 'laws.FnExactUpAt', WHERE WHAT IT READS IS OF BULK AT MOST 1048576: true; the input reads as it did. -/
def fnExactUpAtUptoRow : OpenClaim := { program := "ytbkpmljdmlhmhaa", sum := "c0a6ee751225e6d89d0026de65a7b5027ac0c3ccc97428f4801371014acd6de7", func := "loop.example/g00199/laws.FnExactUpAt", spec := "fnExactUpAt", apart := false, narrowed := true }
def FnExactUpAtUptoSaid : Prop := fnExactUpAtUptoRow.holds Try.pinned (OpenSpec.upto fnExactUpAtSpec)

/-- 'laws.FnScanned', WHERE WHAT IT READS IS OF BULK AT MOST 1048576: true; the input reads as it did. -/
def fnScannedUptoRow : OpenClaim := { program := "ytbkpmljdmlhmhaa", sum := "c0a6ee751225e6d89d0026de65a7b5027ac0c3ccc97428f4801371014acd6de7", func := "loop.example/g00199/laws.FnScanned", spec := "fnScanned", apart := false, narrowed := true }
def FnScannedUptoSaid : Prop := fnScannedUptoRow.holds Try.pinned (OpenSpec.upto fnScannedSpec)

/-- 'laws.FnExactScanRecs', WHERE WHAT IT READS IS OF BULK AT MOST 1048576: true; the input reads as it did. -/
def fnExactScanRecsUptoRow : OpenClaim := { program := "ytbkpmljdmlhmhaa", sum := "c0a6ee751225e6d89d0026de65a7b5027ac0c3ccc97428f4801371014acd6de7", func := "loop.example/g00199/laws.FnExactScanRecs", spec := "fnExactScanRecs", apart := false, narrowed := true }
def FnExactScanRecsUptoSaid : Prop := fnExactScanRecsUptoRow.holds Try.pinned (OpenSpec.upto fnExactScanRecsSpec)

/-- 'laws.FnExactFoldRecs', WHERE WHAT IT READS IS OF BULK AT MOST 1048576: true; the input reads as it did. -/
def fnExactFoldRecsUptoRow : OpenClaim := { program := "ytbkpmljdmlhmhaa", sum := "c0a6ee751225e6d89d0026de65a7b5027ac0c3ccc97428f4801371014acd6de7", func := "loop.example/g00199/laws.FnExactFoldRecs", spec := "fnExactFoldRecs", inPlace := ["slices.overlaps[loop.example/g00199/impl.Up]"], apart := false, narrowed := true }
def FnExactFoldRecsUptoSaid : Prop := fnExactFoldRecsUptoRow.holds Try.pinned (OpenSpec.upto fnExactFoldRecsSpec)

/-- 'laws.FnFolded', WHERE WHAT IT READS IS OF BULK AT MOST 1048576: true; the input reads as it did. -/
def fnFoldedUptoRow : OpenClaim := { program := "ytbkpmljdmlhmhaa", sum := "c0a6ee751225e6d89d0026de65a7b5027ac0c3ccc97428f4801371014acd6de7", func := "loop.example/g00199/laws.FnFolded", spec := "fnFolded", inPlace := ["slices.overlaps[loop.example/g00199/impl.Up]"], apart := false, narrowed := true }
def FnFoldedUptoSaid : Prop := fnFoldedUptoRow.holds Try.pinned (OpenSpec.upto fnFoldedSpec)

/-- 'laws.FnExactStoreOk', WHERE WHAT IT READS IS OF BULK AT MOST 1048576: true; the input reads as it did. -/
def fnExactStoreOkUptoRow : OpenClaim := { program := "ytbkpmljdmlhmhaa", sum := "c0a6ee751225e6d89d0026de65a7b5027ac0c3ccc97428f4801371014acd6de7", func := "loop.example/g00199/laws.FnExactStoreOk", spec := "fnExactStoreOk", inPlace := ["slices.overlaps[loop.example/g00199/impl.Up]"], unfollowed := true, recurses := true, apart := false, narrowed := true }
def FnExactStoreOkUptoSaid : Prop := fnExactStoreOkUptoRow.holds Try.pinned (OpenSpec.upto fnExactStoreOkSpec)

/-- 'laws.FnExactOpenStore', WHERE WHAT IT READS IS OF BULK AT MOST 1048576: true; the input reads as it did. -/
def fnExactOpenStoreUptoRow : OpenClaim := { program := "ytbkpmljdmlhmhaa", sum := "c0a6ee751225e6d89d0026de65a7b5027ac0c3ccc97428f4801371014acd6de7", func := "loop.example/g00199/laws.FnExactOpenStore", spec := "fnExactOpenStore", inPlace := ["slices.overlaps[loop.example/g00199/impl.Up]"], apart := false, narrowed := true }
def FnExactOpenStoreUptoSaid : Prop := fnExactOpenStoreUptoRow.holds Try.pinned (OpenSpec.upto fnExactOpenStoreSpec)

/-- 'laws.FnExactSyncStore', WHERE WHAT IT READS IS OF BULK AT MOST 1048576: true; the input reads as it did. -/
def fnExactSyncStoreUptoRow : OpenClaim := { program := "ytbkpmljdmlhmhaa", sum := "c0a6ee751225e6d89d0026de65a7b5027ac0c3ccc97428f4801371014acd6de7", func := "loop.example/g00199/laws.FnExactSyncStore", spec := "fnExactSyncStore", inPlace := ["slices.overlaps[loop.example/g00199/impl.Up]"], unfollowed := true, recurses := true, apart := false, narrowed := true }
def FnExactSyncStoreUptoSaid : Prop := fnExactSyncStoreUptoRow.holds Try.pinned (OpenSpec.upto fnExactSyncStoreSpec)

/-- 'laws.FnExactDropUp', WHERE WHAT IT READS IS OF BULK AT MOST 1048576: true; the input reads as it did. -/
def fnExactDropUpUptoRow : OpenClaim := { program := "ytbkpmljdmlhmhaa", sum := "c0a6ee751225e6d89d0026de65a7b5027ac0c3ccc97428f4801371014acd6de7", func := "loop.example/g00199/laws.FnExactDropUp", spec := "fnExactDropUp", inPlace := ["slices.overlaps[loop.example/g00199/impl.Up]"], unfollowed := true, recurses := true, apart := false, narrowed := true }
def FnExactDropUpUptoSaid : Prop := fnExactDropUpUptoRow.holds Try.pinned (OpenSpec.upto fnExactDropUpSpec)

end Rows
end Go.Proofs.Ytbkpmljdmlhmhaa
