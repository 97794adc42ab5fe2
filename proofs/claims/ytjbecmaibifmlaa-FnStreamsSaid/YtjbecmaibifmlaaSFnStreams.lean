/- The pure statement of the law laws.FnStreams: what the Pure text proves. -/
import Derived.Test.YtjbecmaibifmlaaQFnStreamsx4
import Derived.Test.YtjbecmaibifmlaaOpen
namespace Go.Proofs.Ytjbecmaibifmlaa.QFnStreams
open Go.RowKit Go.Proofs.YtjbecmaibifmlaaW.PrintWords Go.Proofs.YtjbecmaibifmlaaW.PrintLast Go.Proofs.YtjbecmaibifmlaaW.PrintOpen
/-- THE ONE PURE STATEMENT of laws_FnStreams. -/
def laws_FnStreams.Pure : Prop := ∀ (l0 : List Int), (bdList bdU8) l0 → ∃ k, laws_FnStreams.f k l0 = some true
end Go.Proofs.Ytjbecmaibifmlaa.QFnStreams
