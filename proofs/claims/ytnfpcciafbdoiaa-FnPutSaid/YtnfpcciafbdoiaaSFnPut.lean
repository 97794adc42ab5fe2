/- The pure statement of the law laws.FnPut: what the Pure text proves. -/
import Derived.Test.YtnfpcciafbdoiaaQFnPutx6
import Derived.Test.YtnfpcciafbdoiaaOpen
namespace Go.Proofs.Ytnfpcciafbdoiaa.QFnPut
open Go.RowKit Go.Proofs.YtnfpcciafbdoiaaW.PrintWords Go.Proofs.YtnfpcciafbdoiaaW.PrintLast Go.Proofs.YtnfpcciafbdoiaaW.PrintOpen
/-- THE ONE PURE STATEMENT of laws_FnPut. -/
def laws_FnPut.Pure : Prop := ∀ (l0 : List Int), (bdList bdU8) l0 → ∃ k, laws_FnPut.f k l0 = some true
end Go.Proofs.Ytnfpcciafbdoiaa.QFnPut
