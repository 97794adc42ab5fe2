/- The pure statement of the law laws.FnExactStoreNew: what the Pure text proves. -/
import Derived.Test.YtcmjabahehjjhaaQFnExactStoreNewx4
import Derived.Test.YtcmjabahehjjhaaOpen
namespace Go.Proofs.Ytcmjabahehjjhaa.QFnExactStoreNew
open Go.RowKit Go.Proofs.YtcmjabahehjjhaaW.PrintWords Go.Proofs.YtcmjabahehjjhaaW.PrintLast Go.Proofs.YtcmjabahehjjhaaW.PrintOpen
/-- THE ONE PURE STATEMENT of laws_FnExactStoreNew. -/
def laws_FnExactStoreNew.Pure : Prop := ∀ (a0 : Int), bdI64 a0 → ∃ k, laws_FnExactStoreNew.f k a0 = some true
end Go.Proofs.Ytcmjabahehjjhaa.QFnExactStoreNew
