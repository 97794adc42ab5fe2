/- The pure statement of the law laws.FnLanes: what the Pure text proves. -/
import Derived.Test.YtejnagdmfooemaaQFnLanesx10
import Derived.Test.YtejnagdmfooemaaVFnLanes
namespace Go.Proofs.Ytejnagdmfooemaa.QFnLanes
open Go.RowKit Go.Proofs.YtejnagdmfooemaaW.PrintWords Go.Proofs.YtejnagdmfooemaaW.PrintLast Go.Proofs.YtejnagdmfooemaaW.PrintOpen
/-- THE ONE PURE STATEMENT of laws_FnLanes. -/
def laws_FnLanes.Pure : Prop := ∀ (l0 : List Int), (bdList bdU8) l0 → ∃ k, laws_FnLanes.f k l0 = some true
end Go.Proofs.Ytejnagdmfooemaa.QFnLanes
