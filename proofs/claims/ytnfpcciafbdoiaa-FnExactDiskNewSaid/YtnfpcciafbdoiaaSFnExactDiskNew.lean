/- The pure statement of the law laws.FnExactDiskNew: what the Pure text proves. -/
import Derived.Test.YtnfpcciafbdoiaaQFnExactDiskNewx2
import Derived.Test.YtnfpcciafbdoiaaOpen
namespace Go.Proofs.Ytnfpcciafbdoiaa.QFnExactDiskNew
open Go.RowKit Go.Proofs.YtnfpcciafbdoiaaW.PrintWords Go.Proofs.YtnfpcciafbdoiaaW.PrintLast Go.Proofs.YtnfpcciafbdoiaaW.PrintOpen
/-- THE ONE PURE STATEMENT of laws_FnExactDiskNew. -/
def laws_FnExactDiskNew.Pure : Prop := ∀ (a0 : Int), bdI64 a0 → ∃ k, laws_FnExactDiskNew.f k a0 = some true
end Go.Proofs.Ytnfpcciafbdoiaa.QFnExactDiskNew
