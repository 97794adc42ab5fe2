/- The pure statement of the law laws.FnExactFlowNew: what the Pure text proves. -/
import Derived.Test.YtejnagdmfooemaaQFnExactFlowNewx2
import Derived.Test.YtejnagdmfooemaaOpen
namespace Go.Proofs.Ytejnagdmfooemaa.QFnExactFlowNew
open Go.RowKit Go.Proofs.YtejnagdmfooemaaW.PrintWords Go.Proofs.YtejnagdmfooemaaW.PrintLast Go.Proofs.YtejnagdmfooemaaW.PrintOpen
/-- THE ONE PURE STATEMENT of laws_FnExactFlowNew. -/
def laws_FnExactFlowNew.Pure : Prop := ∀ (a0 : Int), bdI64 a0 → ∃ k, laws_FnExactFlowNew.f k a0 = some true
end Go.Proofs.Ytejnagdmfooemaa.QFnExactFlowNew
