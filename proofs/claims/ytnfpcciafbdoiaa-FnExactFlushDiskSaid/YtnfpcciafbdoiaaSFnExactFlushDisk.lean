/- The pure statement of the law laws.FnExactFlushDisk: what the Pure text proves. -/
import Derived.Test.YtnfpcciafbdoiaaQFnExactFlushDiskx3
import Derived.Test.YtnfpcciafbdoiaaOpen
namespace Go.Proofs.Ytnfpcciafbdoiaa.QFnExactFlushDisk
open Go.RowKit Go.Proofs.YtnfpcciafbdoiaaW.PrintWords Go.Proofs.YtnfpcciafbdoiaaW.PrintLast Go.Proofs.YtnfpcciafbdoiaaW.PrintOpen
/-- THE ONE PURE STATEMENT of laws_FnExactFlushDisk. -/
def laws_FnExactFlushDisk.Pure : Prop := ∀ (l0_0 : List ByteArray) (l0_1 : List ByteArray), (bdList bdStr) l0_0 → (bdList bdStr) l0_1 → ∃ k, laws_FnExactFlushDisk.f k l0_0 l0_1 = some true
end Go.Proofs.Ytnfpcciafbdoiaa.QFnExactFlushDisk
