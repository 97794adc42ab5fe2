/- The pure statement of the law laws.FnSectors: what the Pure text proves. -/
import Derived.Test.YtnfpcciafbdoiaaQFnSectorsx7
import Derived.Test.YtnfpcciafbdoiaaVFnSectors
namespace Go.Proofs.Ytnfpcciafbdoiaa.QFnSectors
open Go.RowKit Go.Proofs.YtnfpcciafbdoiaaW.PrintWords Go.Proofs.YtnfpcciafbdoiaaW.PrintLast Go.Proofs.YtnfpcciafbdoiaaW.PrintOpen
/-- THE ONE PURE STATEMENT of laws_FnSectors. -/
def laws_FnSectors.Pure : Prop := ∀ (l0 : List Int), (bdList bdU8) l0 → ∃ k, laws_FnSectors.f k l0 = some true
end Go.Proofs.Ytnfpcciafbdoiaa.QFnSectors
