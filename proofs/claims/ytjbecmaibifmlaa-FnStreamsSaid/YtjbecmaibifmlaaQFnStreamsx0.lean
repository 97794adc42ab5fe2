/- Contracts of functions of the translation, each with its pure function; printed by a program of this session (wip/pr.py) over the kit's print; no condition of its own. -/
import Derived.Test.YtjbecmaibifmlaaProg
import Derived.Below
import Derived.Deep.Draws
import Derived.Deep.AppendLies
import Derived.Maps.AppendAt
import Derived.OwnWalk
import Derived.Laws.BytesArg
import Derived.Laws.MakeOwn
import Derived.Laws.OwnMore
import Derived.Deep.OwnRows
import Derived.Tactics
import Derived.Lib.ConvBytes
import Derived.Laws.Slices
import Derived.WalkKit
import Derived.KernelRfl
import Derived.RowKit3
import Derived.Deep.LoopGhost
import Derived.Deep.QuietTactic
import Derived.BigQuiet
import Derived.WideLaws
import Derived.Deep.DeepCutAuto
import Derived.Deep.CutBlock
import Derived.Deep.RegionHeld3
import Derived.Laws.Rows
import Derived.Lib.AppendStr
import Derived.ArgAppend
import Derived.Laws.IdiomCopy
import Derived.OrdersHeld
import Derived.Laws.BitsLemmas
import Derived.RowKit
import Derived.WalkSpells
import Derived.Lib.SliceRun
import Derived.Test.YtjbecmaibifmlaaWWords
import Derived.Test.YtjbecmaibifmlaaWLast
import Derived.Test.YtjbecmaibifmlaaWTab
import Derived.Test.YtjbecmaibifmlaaWFour
import Derived.Test.YtjbecmaibifmlaaWQPut
import Derived.Test.YtjbecmaibifmlaaWApart
import Derived.Test.YtjbecmaibifmlaaWArr
import Derived.Test.YtjbecmaibifmlaaWZeros
import Derived.Test.YtjbecmaibifmlaaWFoot
import Derived.Test.YtjbecmaibifmlaaWKept
import Derived.Test.YtjbecmaibifmlaaWShare
import Derived.Test.YtjbecmaibifmlaaWN
import Derived.Test.YtjbecmaibifmlaaWFootNe
import Derived.Test.YtjbecmaibifmlaaWAt
import Derived.Test.YtjbecmaibifmlaaWEqStruct
import Derived.Test.YtjbecmaibifmlaaWRepsOne
import Derived.Test.YtjbecmaibifmlaaWInv
import Derived.Test.YtjbecmaibifmlaaWInvWords
import Derived.Test.YtjbecmaibifmlaaWGuard
import Derived.Test.YtjbecmaibifmlaaWNEv
import Derived.Test.YtjbecmaibifmlaaWMore
namespace Go.Proofs.Ytjbecmaibifmlaa.QFnStreams
open Go.RowKit Go.Proofs.YtjbecmaibifmlaaW.PrintWords Go.Proofs.YtjbecmaibifmlaaW.PrintLast Go.Proofs.YtjbecmaibifmlaaW.PrintMore
attribute [local go_sem] max2_int min2_int max_two min_two max_three min_three max_four min_four   -- for this text's walks alone
set_option linter.unusedVariables false
set_option linter.unusedSimpArgs false



def errW : Option Int → Value
  | none => .nilIface
  | some c => .iface 0 (.int .i64 c)
theorem errW_none : errW none = .nilIface := rfl
theorem errW_some (c : Int) : errW (some c) = .iface 0 (.int .i64 c) := rfl

theorem info3 : (Try.prog.info? 3).map (fun i => (i.zero, i.size, i.bytes)) = some (some (.int .i64 0), 1, 8) := by kernel_rfl
-- the values' own types

end Go.Proofs.Ytjbecmaibifmlaa.QFnStreams
