/- The pure statement of the law laws.FnExactReqOk: what the Pure text proves. -/
import Derived.Test.YtmkjkaijphmnpaaQFnExactReqOkx2
import Derived.Test.YtmkjkaijphmnpaaOpen
namespace Go.Proofs.Ytmkjkaijphmnpaa.QFnExactReqOk
open Go.RowKit Go.Proofs.YtmkjkaijphmnpaaW.PrintWords Go.Proofs.YtmkjkaijphmnpaaW.PrintLast Go.Proofs.YtmkjkaijphmnpaaW.PrintOpen
/-- THE ONE PURE STATEMENT of laws_FnExactReqOk. -/
def laws_FnExactReqOk.Pure : Prop := ∀ (a0_0 : Int) (a0_1 : ByteArray) (a0_2 : Int), bdI64 a0_0 → bdStr a0_1 → bdI64 a0_2 → ∃ k, laws_FnExactReqOk.f k a0_0 a0_1 a0_2 = some true
end Go.Proofs.Ytmkjkaijphmnpaa.QFnExactReqOk
