/- The pure statement of the law laws.FnExactStreamStep: what the Pure text proves. -/
import Derived.Test.YtjbecmaibifmlaaQFnExactStreamStepx3
import Derived.Test.YtjbecmaibifmlaaOpen
namespace Go.Proofs.Ytjbecmaibifmlaa.QFnExactStreamStep
open Go.RowKit Go.Proofs.YtjbecmaibifmlaaW.PrintWords Go.Proofs.YtjbecmaibifmlaaW.PrintLast Go.Proofs.YtjbecmaibifmlaaW.PrintOpen
/-- THE ONE PURE STATEMENT of laws_FnExactStreamStep. -/
def laws_FnExactStreamStep.Pure : Prop := ∀ (a0 : Int) (a1 : Int), bdI64 a0 → bdI64 a1 → ∃ k, laws_FnExactStreamStep.f k a0 a1 = some true
end Go.Proofs.Ytjbecmaibifmlaa.QFnExactStreamStep
