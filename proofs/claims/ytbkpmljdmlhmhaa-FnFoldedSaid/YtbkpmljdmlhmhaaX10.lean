import Derived.Test.YtbkpmljdmlhmhaaX9
namespace Go.Proofs.Ytbkpmljdmlhmhaa
open Go Go.AM Ty
set_option maxRecDepth 100000
set_option maxHeartbeats 4000000
set_option linter.unusedVariables false
set_option linter.unusedSimpArgs false
attribute [local irreducible] aw aops aopsD wpo wpoL condW guardW thenQ blockQ finQ Le AGood
/-- the reader's steps: value, place, whether it has gone wrong -/
def nV (l : List UInt8) (at_ : Int) (bad : Bool) (k : Int) : Int := if numBad l at_ bad k then 0 else getV l at_ k
def nA (l : List UInt8) (at_ : Int) (bad : Bool) (k : Int) : Int := if numBad l at_ bad k then at_ else at_ + k
def tA (l : List UInt8) (at_ : Int) (bad : Bool) (n : Int) : Int := if takeBad l at_ bad n then at_ else at_ + n
theorem nA_bd {l : List UInt8} {at_ B k : Int} {bad : Bool} (h : 0 ≤ at_ ∧ at_ ≤ B) (hk : 0 ≤ k) : 0 ≤ nA l at_ bad k ∧ nA l at_ bad k ≤ B + k := by
  unfold nA; split <;> omega
theorem tA_bd {l : List UInt8} {at_ B k : Int} {bad : Bool} (h : 0 ≤ at_ ∧ at_ ≤ B) (hk : 0 ≤ k ∧ k ≤ 255) : 0 ≤ tA l at_ bad k ∧ tA l at_ bad k ≤ B + 255 := by
  unfold tA; split <;> omega
theorem getV1 (l : List UInt8) (at_ : Int) : 0 ≤ getV l at_ 1 ∧ getV l at_ 1 ≤ 255 := by
  unfold getV
  split
  · have h := bigV_lt ((l.drop at_.toNat).take (1 : Int).toNat)
    have : ((l.drop at_.toNat).take (1 : Int).toNat).length ≤ 1 := by rw [List.length_take]; exact Nat.min_le_left _ _
    have h2 : 256 ^ ((l.drop at_.toNat).take (1 : Int).toNat).length ≤ 256 ^ 1 := Nat.pow_le_pow_right (by decide) this
    omega
  · omega
theorem nV1 (l : List UInt8) (at_ : Int) (bad : Bool) : 0 ≤ nV l at_ bad 1 ∧ nV l at_ bad 1 ≤ 255 := by
  unfold nV
  split
  · omega
  · exact getV1 l at_
theorem number' (l : List UInt8) {c : Nat} (hc : c = l.length) (at_ k : Int) (bad : Bool) (hl : l.length ≤ 4294967296) (hk : 0 ≤ k ∧ k ≤ 4294967296) (ha : 0 ≤ at_ ∧ at_ ≤ 4294967296) :
    AGood e.P 75 [rdPA l c at_ bad, .ro (.int .i64 k)] (.int .i64 (nV l at_ bad k)) [rdPB l c (nA l at_ bad k) (numBad l at_ bad k), .keep] := number l hc at_ k bad hl hk ha
theorem take' (l : List UInt8) {c : Nat} (hc : c = l.length) (at_ n : Int) (bad : Bool) (hl : l.length ≤ 4294967296) (hn : 0 ≤ n ∧ n ≤ 4294967296) (ha : 0 ≤ at_ ∧ at_ ≤ 4294967296) :
    AGood e.P 76 [rdPA l c at_ bad, .ro (.int .i64 n)] (.row 1 (takeV l at_ bad n).length (bT (takeV l at_ bad n))) [rdPB l c (tA l at_ bad n) (takeBad l at_ bad n), .keep] := take l hc at_ n bad hl hn ha
end Go.Proofs.Ytbkpmljdmlhmhaa
