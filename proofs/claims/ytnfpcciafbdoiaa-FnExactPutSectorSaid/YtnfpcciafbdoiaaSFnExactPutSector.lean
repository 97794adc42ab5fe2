/- The pure statement of the law laws.FnExactPutSector: what the Pure text proves. -/
import Derived.Test.YtnfpcciafbdoiaaQFnExactPutSectorx5
import Derived.Test.YtnfpcciafbdoiaaOpen
namespace Go.Proofs.Ytnfpcciafbdoiaa.QFnExactPutSector
open Go.RowKit Go.Proofs.YtnfpcciafbdoiaaW.PrintWords Go.Proofs.YtnfpcciafbdoiaaW.PrintLast Go.Proofs.YtnfpcciafbdoiaaW.PrintOpen
/-- THE ONE PURE STATEMENT of laws_FnExactPutSector. -/
def laws_FnExactPutSector.Pure : Prop := ∀ (l0_0 : List ByteArray) (l0_1 : List ByteArray) (a1 : Int) (a2 : ByteArray), (bdList bdStr) l0_0 → (bdList bdStr) l0_1 → bdI64 a1 → bdStr a2 → ∃ k, laws_FnExactPutSector.f k l0_0 l0_1 a1 a2 = some true
end Go.Proofs.Ytnfpcciafbdoiaa.QFnExactPutSector
