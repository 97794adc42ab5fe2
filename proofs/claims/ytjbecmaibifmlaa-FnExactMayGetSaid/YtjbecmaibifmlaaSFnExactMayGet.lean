/- The pure statement of the law laws.FnExactMayGet: what the Pure text proves. -/
import Derived.Test.YtjbecmaibifmlaaQFnExactMayGetx3
import Derived.Test.YtjbecmaibifmlaaOpen
namespace Go.Proofs.Ytjbecmaibifmlaa.QFnExactMayGet
open Go.RowKit Go.Proofs.YtjbecmaibifmlaaW.PrintWords Go.Proofs.YtjbecmaibifmlaaW.PrintLast Go.Proofs.YtjbecmaibifmlaaW.PrintOpen
/-- THE ONE PURE STATEMENT of laws_FnExactMayGet. -/
def laws_FnExactMayGet.Pure : Prop := ∀ (a0 : Int), bdI64 a0 → ∃ k, laws_FnExactMayGet.f k a0 = some true
end Go.Proofs.Ytjbecmaibifmlaa.QFnExactMayGet
