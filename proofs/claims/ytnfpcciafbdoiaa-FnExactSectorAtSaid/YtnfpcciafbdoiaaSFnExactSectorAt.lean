/- The pure statement of the law laws.FnExactSectorAt: what the Pure text proves. -/
import Derived.Test.YtnfpcciafbdoiaaQFnExactSectorAtx2
import Derived.Test.YtnfpcciafbdoiaaOpen
namespace Go.Proofs.Ytnfpcciafbdoiaa.QFnExactSectorAt
open Go.RowKit Go.Proofs.YtnfpcciafbdoiaaW.PrintWords Go.Proofs.YtnfpcciafbdoiaaW.PrintLast Go.Proofs.YtnfpcciafbdoiaaW.PrintOpen
/-- THE ONE PURE STATEMENT of laws_FnExactSectorAt. -/
def laws_FnExactSectorAt.Pure : Prop := ∀ (l0_0 : List ByteArray) (l0_1 : List ByteArray) (a1 : Int), (bdList bdStr) l0_0 → (bdList bdStr) l0_1 → bdI64 a1 → ∃ k, laws_FnExactSectorAt.f k l0_0 l0_1 a1 = some true
end Go.Proofs.Ytnfpcciafbdoiaa.QFnExactSectorAt
