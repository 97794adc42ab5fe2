/- The pure statement of the law laws.FnExactDiskOk: what the Pure text proves. -/
import Derived.Test.YtnfpcciafbdoiaaQFnExactDiskOkx2
import Derived.Test.YtnfpcciafbdoiaaOpen
namespace Go.Proofs.Ytnfpcciafbdoiaa.QFnExactDiskOk
open Go.RowKit Go.Proofs.YtnfpcciafbdoiaaW.PrintWords Go.Proofs.YtnfpcciafbdoiaaW.PrintLast Go.Proofs.YtnfpcciafbdoiaaW.PrintOpen
/-- THE ONE PURE STATEMENT of laws_FnExactDiskOk. -/
def laws_FnExactDiskOk.Pure : Prop := ∀ (l0_0 : List ByteArray) (l0_1 : List ByteArray), (bdList bdStr) l0_0 → (bdList bdStr) l0_1 → ∃ k, laws_FnExactDiskOk.f k l0_0 l0_1 = some true
end Go.Proofs.Ytnfpcciafbdoiaa.QFnExactDiskOk
