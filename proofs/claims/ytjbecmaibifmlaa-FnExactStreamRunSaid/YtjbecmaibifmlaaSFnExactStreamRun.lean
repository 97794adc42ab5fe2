/- The pure statement of the law laws.FnExactStreamRun: what the Pure text proves. -/
import Derived.Test.YtjbecmaibifmlaaQFnExactStreamRunx3
import Derived.Test.YtjbecmaibifmlaaOpen
namespace Go.Proofs.Ytjbecmaibifmlaa.QFnExactStreamRun
open Go.RowKit Go.Proofs.YtjbecmaibifmlaaW.PrintWords Go.Proofs.YtjbecmaibifmlaaW.PrintLast Go.Proofs.YtjbecmaibifmlaaW.PrintOpen
/-- THE ONE PURE STATEMENT of laws_FnExactStreamRun. -/
def laws_FnExactStreamRun.Pure : Prop := ∀ (l0 : List Int), (bdList bdI64) l0 → ∃ k, laws_FnExactStreamRun.f k l0 = some true
end Go.Proofs.Ytjbecmaibifmlaa.QFnExactStreamRun
