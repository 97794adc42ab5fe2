/- The pure statement of the law laws.FnGathered: what the Pure text proves. -/
import Derived.Test.YtjbecmaibifmlaaQFnGatheredx13
import Derived.Test.YtjbecmaibifmlaaVFnGathered
namespace Go.Proofs.Ytjbecmaibifmlaa.QFnGathered
open Go.RowKit Go.Proofs.YtjbecmaibifmlaaW.PrintWords Go.Proofs.YtjbecmaibifmlaaW.PrintLast Go.Proofs.YtjbecmaibifmlaaW.PrintOpen
/-- THE ONE PURE STATEMENT of laws_FnGathered. -/
def laws_FnGathered.Pure : Prop := ∀ (l0 : List Int), (bdList bdU8) l0 → ∃ k, laws_FnGathered.f k l0 = some true
end Go.Proofs.Ytjbecmaibifmlaa.QFnGathered
