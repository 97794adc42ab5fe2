/- The pure statement of the law laws.FnExactRespOk: what the Pure text proves. -/
import Derived.Test.YtmkjkaijphmnpaaQFnExactRespOkx1
import Derived.Test.YtmkjkaijphmnpaaOpen
namespace Go.Proofs.Ytmkjkaijphmnpaa.QFnExactRespOk
open Go.RowKit Go.Proofs.YtmkjkaijphmnpaaW.PrintWords Go.Proofs.YtmkjkaijphmnpaaW.PrintLast Go.Proofs.YtmkjkaijphmnpaaW.PrintOpen
/-- THE ONE PURE STATEMENT of laws_FnExactRespOk. -/
def laws_FnExactRespOk.Pure : Prop := ∀ (a0_0 : Int) (a0_1 : Int), bdI64 a0_0 → bdI64 a0_1 → laws_FnExactRespOk.f a0_0 a0_1 = some true
end Go.Proofs.Ytmkjkaijphmnpaa.QFnExactRespOk
