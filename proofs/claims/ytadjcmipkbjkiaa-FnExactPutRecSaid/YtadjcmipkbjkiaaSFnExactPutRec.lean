/- The pure statement of the law laws.FnExactPutRec: what the Pure text proves. -/
import Derived.Test.YtadjcmipkbjkiaaQFnExactPutRecx6
import Derived.Test.YtadjcmipkbjkiaaOpen
namespace Go.Proofs.Ytadjcmipkbjkiaa.QFnExactPutRec
open Go.RowKit Go.Proofs.YtadjcmipkbjkiaaW.PrintWords Go.Proofs.YtadjcmipkbjkiaaW.PrintLast Go.Proofs.YtadjcmipkbjkiaaW.PrintOpen
/-- THE ONE PURE STATEMENT of laws_FnExactPutRec. -/
def laws_FnExactPutRec.Pure : Prop := ∀ (a0_0 : Int) (a0_1 : Int) (a0_2 : Int) (a0_3 : ByteArray) (a0_4 : Int) (l0_5 : List Int), bdI64 a0_0 → bdI64 a0_1 → bdI64 a0_2 → bdStr a0_3 → bdI64 a0_4 → (bdList bdU8) l0_5 → ∃ k, laws_FnExactPutRec.f k a0_0 a0_1 a0_2 a0_3 a0_4 l0_5 = some true
end Go.Proofs.Ytadjcmipkbjkiaa.QFnExactPutRec
