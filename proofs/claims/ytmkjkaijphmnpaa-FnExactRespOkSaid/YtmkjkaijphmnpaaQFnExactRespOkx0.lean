/- Contracts of functions of the translation, each with its pure function; printed by a program of this session (wip/pr.py) over the kit's print; no condition of its own. -/
import Derived.Test.YtmkjkaijphmnpaaProg
import Derived.Below
import Derived.Deep.Draws
import Derived.Deep.AppendLies
import Derived.Maps.AppendAt
import Derived.OwnWalk
import Derived.Laws.BytesArg
import Derived.Laws.MakeOwn
import Derived.Laws.OwnMore
import Derived.Deep.OwnRows
import Derived.Tactics
import Derived.Lib.ConvBytes
import Derived.Laws.Slices
import Derived.WalkKit
import Derived.KernelRfl
import Derived.RowKit3
import Derived.Deep.LoopGhost
import Derived.Deep.QuietTactic
import Derived.BigQuiet
import Derived.WideLaws
import Derived.Deep.DeepCutAuto
import Derived.Deep.CutBlock
import Derived.Deep.RegionHeld3
import Derived.Laws.Rows
import Derived.Lib.AppendStr
import Derived.ArgAppend
import Derived.Laws.IdiomCopy
import Derived.OrdersHeld
import Derived.Laws.BitsLemmas
import Derived.RowKit
import Derived.WalkSpells
import Derived.Lib.SliceRun
import Derived.Test.YtmkjkaijphmnpaaWWords
import Derived.Test.YtmkjkaijphmnpaaWLast
import Derived.Test.YtmkjkaijphmnpaaWTab
import Derived.Test.YtmkjkaijphmnpaaWFour
import Derived.Test.YtmkjkaijphmnpaaWQPut
import Derived.Test.YtmkjkaijphmnpaaWApart
import Derived.Test.YtmkjkaijphmnpaaWArr
import Derived.Test.YtmkjkaijphmnpaaWZeros
import Derived.Test.YtmkjkaijphmnpaaWFoot
import Derived.Test.YtmkjkaijphmnpaaWKept
import Derived.Test.YtmkjkaijphmnpaaWShare
import Derived.Test.YtmkjkaijphmnpaaWN
import Derived.Test.YtmkjkaijphmnpaaWFootNe
import Derived.Test.YtmkjkaijphmnpaaWAt
import Derived.Test.YtmkjkaijphmnpaaWEqStruct
import Derived.Test.YtmkjkaijphmnpaaWRepsOne
import Derived.Test.YtmkjkaijphmnpaaWInv
import Derived.Test.YtmkjkaijphmnpaaWInvWords
import Derived.Test.YtmkjkaijphmnpaaWGuard
import Derived.Test.YtmkjkaijphmnpaaWNEv
import Derived.Test.YtmkjkaijphmnpaaWMore
namespace Go.Proofs.Ytmkjkaijphmnpaa.QFnExactRespOk
open Go.RowKit Go.Proofs.YtmkjkaijphmnpaaW.PrintWords Go.Proofs.YtmkjkaijphmnpaaW.PrintLast Go.Proofs.YtmkjkaijphmnpaaW.PrintMore
attribute [local go_sem] max2_int min2_int max_two min_two max_three min_three max_four min_four   -- for this text's walks alone
set_option linter.unusedVariables false
set_option linter.unusedSimpArgs false



def errW : Option Int → Value
  | none => .nilIface
  | some c => .iface 0 (.int .i64 c)
theorem errW_none : errW none = .nilIface := rfl
theorem errW_some (c : Int) : errW (some c) = .iface 0 (.int .i64 c) := rfl

-- the values' own types

end Go.Proofs.Ytmkjkaijphmnpaa.QFnExactRespOk
