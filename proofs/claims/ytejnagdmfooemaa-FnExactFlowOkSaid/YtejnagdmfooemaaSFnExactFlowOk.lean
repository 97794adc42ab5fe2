/- The pure statement of the law laws.FnExactFlowOk: what the Pure text proves. -/
import Derived.Test.YtejnagdmfooemaaQFnExactFlowOkx2
import Derived.Test.YtejnagdmfooemaaOpen
namespace Go.Proofs.Ytejnagdmfooemaa.QFnExactFlowOk
open Go.RowKit Go.Proofs.YtejnagdmfooemaaW.PrintWords Go.Proofs.YtejnagdmfooemaaW.PrintLast Go.Proofs.YtejnagdmfooemaaW.PrintOpen
def bdS68 (x : S68) : Prop := bdI64 x.f0 ∧ bdI64 x.f1
/-- THE ONE PURE STATEMENT of laws_FnExactFlowOk. -/
def laws_FnExactFlowOk.Pure : Prop := ∀ (a0_0 : Int) (a0_1 : Int) (l0_2 : List (S68)), bdI64 a0_0 → bdI64 a0_1 → (bdList bdS68) l0_2 → ∃ k, laws_FnExactFlowOk.f k a0_0 a0_1 l0_2 = some true
end Go.Proofs.Ytejnagdmfooemaa.QFnExactFlowOk
