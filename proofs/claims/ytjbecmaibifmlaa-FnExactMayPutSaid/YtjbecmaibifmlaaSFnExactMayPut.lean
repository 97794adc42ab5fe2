/- The pure statement of the law laws.FnExactMayPut: what the Pure text proves. -/
import Derived.Test.YtjbecmaibifmlaaQFnExactMayPutx3
import Derived.Test.YtjbecmaibifmlaaOpen
namespace Go.Proofs.Ytjbecmaibifmlaa.QFnExactMayPut
open Go.RowKit Go.Proofs.YtjbecmaibifmlaaW.PrintWords Go.Proofs.YtjbecmaibifmlaaW.PrintLast Go.Proofs.YtjbecmaibifmlaaW.PrintOpen
/-- THE ONE PURE STATEMENT of laws_FnExactMayPut. -/
def laws_FnExactMayPut.Pure : Prop := ∀ (a0 : Int), bdI64 a0 → ∃ k, laws_FnExactMayPut.f k a0 = some true
end Go.Proofs.Ytjbecmaibifmlaa.QFnExactMayPut
