/- The pure statement of the law laws.FnExactOpenLane: what the Pure text proves. -/
import Derived.Test.YtejnagdmfooemaaQFnExactOpenLanex5
import Derived.Test.YtejnagdmfooemaaVFnExactOpenLane
namespace Go.Proofs.Ytejnagdmfooemaa.QFnExactOpenLane
open Go.RowKit Go.Proofs.YtejnagdmfooemaaW.PrintWords Go.Proofs.YtejnagdmfooemaaW.PrintLast Go.Proofs.YtejnagdmfooemaaW.PrintOpen
def bdS68 (x : S68) : Prop := bdI64 x.f0 ∧ bdI64 x.f1
/-- THE ONE PURE STATEMENT of laws_FnExactOpenLane. -/
def laws_FnExactOpenLane.Pure : Prop := ∀ (a0_0 : Int) (a0_1 : Int) (l0_2 : List (S68)) (a1 : Int), bdI64 a0_0 → bdI64 a0_1 → (bdList bdS68) l0_2 → bdI64 a1 → ∃ k, laws_FnExactOpenLane.f k a0_0 a0_1 l0_2 a1 = some true
end Go.Proofs.Ytejnagdmfooemaa.QFnExactOpenLane
