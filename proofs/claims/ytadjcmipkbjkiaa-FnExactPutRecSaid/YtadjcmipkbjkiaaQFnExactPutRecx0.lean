/- Contracts of functions of the translation, each with its pure function; printed by a program of this session (wip/pr.py) over the kit's print; no condition of its own. -/
import Derived.Test.YtadjcmipkbjkiaaProg
import Derived.Below
import Derived.Deep.Draws
import Derived.Deep.AppendLies
import Derived.Maps.AppendAt
import Derived.OwnWalk
import Derived.Laws.BytesArg
import Derived.Laws.MakeOwn
import Derived.Laws.OwnMore
import Derived.Deep.OwnRows
import Derived.Tactics
import Derived.Lib.ConvBytes
import Derived.Laws.Slices
import Derived.WalkKit
import Derived.KernelRfl
import Derived.RowKit3
import Derived.Deep.LoopGhost
import Derived.Deep.QuietTactic
import Derived.BigQuiet
import Derived.WideLaws
import Derived.Deep.DeepCutAuto
import Derived.Deep.CutBlock
import Derived.Deep.RegionHeld3
import Derived.Laws.Rows
import Derived.Lib.AppendStr
import Derived.ArgAppend
import Derived.Laws.IdiomCopy
import Derived.OrdersHeld
import Derived.Laws.BitsLemmas
import Derived.RowKit
import Derived.WalkSpells
import Derived.Lib.SliceRun
import Derived.Test.YtadjcmipkbjkiaaMine
import Derived.Test.YtadjcmipkbjkiaaWWords
import Derived.Test.YtadjcmipkbjkiaaWLast
import Derived.Test.YtadjcmipkbjkiaaWTab
import Derived.Test.YtadjcmipkbjkiaaWFour
import Derived.Test.YtadjcmipkbjkiaaWQPut
import Derived.Test.YtadjcmipkbjkiaaWApart
import Derived.Test.YtadjcmipkbjkiaaWArr
import Derived.Test.YtadjcmipkbjkiaaWZeros
import Derived.Test.YtadjcmipkbjkiaaWFoot
import Derived.Test.YtadjcmipkbjkiaaWKept
import Derived.Test.YtadjcmipkbjkiaaWShare
import Derived.Test.YtadjcmipkbjkiaaWN
import Derived.Test.YtadjcmipkbjkiaaWFootNe
import Derived.Test.YtadjcmipkbjkiaaWAt
import Derived.Test.YtadjcmipkbjkiaaWEqStruct
import Derived.Test.YtadjcmipkbjkiaaWRepsOne
import Derived.Test.YtadjcmipkbjkiaaWInv
import Derived.Test.YtadjcmipkbjkiaaWInvWords
import Derived.Test.YtadjcmipkbjkiaaWGuard
import Derived.Test.YtadjcmipkbjkiaaWNEv
import Derived.Test.YtadjcmipkbjkiaaWMore
namespace Go.Proofs.Ytadjcmipkbjkiaa.QFnExactPutRec
open Go.RowKit Go.Proofs.YtadjcmipkbjkiaaW.PrintWords Go.Proofs.YtadjcmipkbjkiaaW.PrintLast Go.Proofs.YtadjcmipkbjkiaaW.PrintMore
attribute [local go_sem] max2_int min2_int max_two min_two max_three min_three max_four min_four   -- for this text's walks alone
set_option linter.unusedVariables false
set_option linter.unusedSimpArgs false



def errW : Option Int → Value
  | none => .nilIface
  | some c => .iface 0 (.int .i64 c)
theorem errW_none : errW none = .nilIface := rfl
theorem errW_some (c : Int) : errW (some c) = .iface 0 (.int .i64 c) := rfl

theorem info5 : (Try.prog.info? 5).map (fun i => (i.zero, i.size, i.bytes)) = some (some (.int .u8 0), 1, 1) := by kernel_rfl
-- the values' own types

end Go.Proofs.Ytadjcmipkbjkiaa.QFnExactPutRec
