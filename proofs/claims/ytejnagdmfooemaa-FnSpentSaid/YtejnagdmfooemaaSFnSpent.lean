/- The pure statement of the law laws.FnSpent: what the Pure text proves. -/
import Derived.Test.YtejnagdmfooemaaQFnSpentx9
import Derived.Test.YtejnagdmfooemaaVFnSpent
namespace Go.Proofs.Ytejnagdmfooemaa.QFnSpent
open Go.RowKit Go.Proofs.YtejnagdmfooemaaW.PrintWords Go.Proofs.YtejnagdmfooemaaW.PrintLast Go.Proofs.YtejnagdmfooemaaW.PrintOpen
/-- THE ONE PURE STATEMENT of laws_FnSpent. -/
def laws_FnSpent.Pure : Prop := ∀ (l0 : List Int), (bdList bdU8) l0 → ∃ k, laws_FnSpent.f k l0 = some true
end Go.Proofs.Ytejnagdmfooemaa.QFnSpent
