/- The pure statement of the law laws.FnExactFallDisk: what the Pure text proves. -/
import Derived.Test.YtnfpcciafbdoiaaQFnExactFallDiskx6
import Derived.Test.YtnfpcciafbdoiaaOpen
namespace Go.Proofs.Ytnfpcciafbdoiaa.QFnExactFallDisk
open Go.RowKit Go.Proofs.YtnfpcciafbdoiaaW.PrintWords Go.Proofs.YtnfpcciafbdoiaaW.PrintLast Go.Proofs.YtnfpcciafbdoiaaW.PrintOpen
/-- THE ONE PURE STATEMENT of laws_FnExactFallDisk. -/
def laws_FnExactFallDisk.Pure : Prop := ∀ (l0_0 : List ByteArray) (l0_1 : List ByteArray) (l1 : List Bool), (bdList bdStr) l0_0 → (bdList bdStr) l0_1 → (bdList bdBool) l1 → ∃ k, laws_FnExactFallDisk.f k l0_0 l0_1 l1 = some true
end Go.Proofs.Ytnfpcciafbdoiaa.QFnExactFallDisk
