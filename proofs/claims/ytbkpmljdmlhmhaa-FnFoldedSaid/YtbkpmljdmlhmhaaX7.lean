import Derived.Test.YtbkpmljdmlhmhaaX6
namespace Go.Proofs.Ytbkpmljdmlhmhaa
open Go Go.AM Ty
set_option maxRecDepth 100000
set_option maxHeartbeats 4000000
set_option linter.unusedVariables false
set_option linter.unusedSimpArgs false
attribute [local irreducible] aw aops aopsD wpo wpoL condW guardW thenQ blockQ finQ Le AGood
abbrev rdPA (l : List UInt8) (c : Nat) (at_ : Int) (bad : Bool) : PA := .box 94 [.own (.row 1 c (bT l)), .ro (.int .i64 at_), .ro (.bool bad)]
abbrev rdPB (l : List UInt8) (c : Nat) (at_ : Int) (bad : Bool) : PB := .box [.row 1 c (bT l), .int .i64 at_, .bool bad]
def numBad (l : List UInt8) (at_ : Int) (bad : Bool) (k : Int) : Bool := bad || !getOk l.length at_ k
theorem number (l : List UInt8) {c : Nat} (hc : c = l.length) (at_ k : Int) (bad : Bool) (hl : l.length ≤ 4294967296) (hk : 0 ≤ k ∧ k ≤ 4294967296) (ha : 0 ≤ at_ ∧ at_ ≤ 4294967296) :
    AGood e.P 75 [rdPA l c at_ bad, .ro (.int .i64 k)] (.int .i64 (if numBad l at_ bad k then 0 else getV l at_ k)) [rdPB l c (if numBad l at_ bad k then at_ else at_ + k) (numBad l at_ bad k), .keep] := by
  subst hc
  refine agood eok (fn := Try.f75) kr_ de_ rfl kr_ ok_ ok_ ?_
  repeat' (first | refine o_cons ?_ | refine w_ok rfl ?_ | refine w_call rfl (getBig _ rfl _ _ hl (by omega)) ?_ | refine o_nil ?_ | refine q_then ?_ | refine sq ?_ | refine aw_seq ?_ | refine aw_reg ?_ | refine w_pT rfl ka rfl ?_ | refine w_pF rfl ka rfl ?_ | refine o_y rfl ka ?_ | refine o_nT rfl ka ?_ | refine o_nF rfl ka ?_ | refine o_nU rfl ?_ | refine aw_cT rfl ka ?_ | refine aw_cF rfl ka ?_ | refine o_gT rfl (fun h => ?_) (fun h => ?_) | refine o_gF rfl (fun h => ?_) (fun h => ?_) | refine aw_cond rfl (fun h => ?_) (fun h => ?_) | refine aw_block ?_ | refine aw_skip ?_ | refine aw_ret ?_ | refine q_ret ?_ | refine q_blockN ?_ | refine q_blockR ?_ | refine aw_exit ?_ | refine q_exit ?_ | refine q_blockE ?_ | refine q_blockX de_ ?_ | refine fin_r rfl ?_ | (refine w_req rfl ?_ ?_; · exact rq_) | (refine w_lk rfl ?_; refine ⟨_, lk_, ?_⟩) | refine w_look (l' := _ :: _) rfl rfl ?_ | refine w_look (l' := []) rfl rfl ?_ | refine w_req rfl ?_ ?_ | refine w_pick rfl (fun b => ?_) | refine l_call rfl (getBig _ rfl _ _ hl (by omega)) ?_ | refine aw_drw kr_ ?_ | refine d_cons ?_ | refine l_ok rfl ?_ | refine d_nil kr_ ?_ | refine d_y rfl ka ?_ | refine d_nT rfl ka ?_ | refine d_nF rfl ka ?_ | refine d_nU rfl ?_ | refine l_pT rfl ka rfl ?_ | refine l_pF rfl ka rfl ?_ | refine d_gT rfl (fun h => ?_) (fun h => ?_) | refine d_gF rfl (fun h => ?_) (fun h => ?_) | (refine l_req rfl ?_ ?_; · exact rq_) | (refine l_lk rfl ?_; refine ⟨_, lk_, ?_⟩) | refine l_look (l' := _ :: _) rfl rfl ?_ | refine l_look (l' := []) rfl rfl ?_ | refine l_req rfl ?_ ?_)
  have hw : IntKind.i64.wrap (at_ + k) = at_ + k := wrap64 (by omega) (by omega)
  all_goals simp_all [numBad]
  exact wrap64 (by omega) (by omega)
def takeBad (l : List UInt8) (at_ : Int) (bad : Bool) (n : Int) : Bool := bad || decide (l.length - at_ < n)
def takeV (l : List UInt8) (at_ : Int) (bad : Bool) (n : Int) : List UInt8 := if takeBad l at_ bad n then [] else (l.drop at_.toNat).take n.toNat
theorem take (l : List UInt8) {c : Nat} (hc : c = l.length) (at_ n : Int) (bad : Bool) (hl : l.length ≤ 4294967296) (hn : 0 ≤ n ∧ n ≤ 4294967296) (ha : 0 ≤ at_ ∧ at_ ≤ 4294967296) :
    AGood e.P 76 [rdPA l c at_ bad, .ro (.int .i64 n)] (.row 1 (takeV l at_ bad n).length (bT (takeV l at_ bad n))) [rdPB l c (if takeBad l at_ bad n then at_ else at_ + n) (takeBad l at_ bad n), .keep] := by
  subst hc
  have hw : IntKind.i64.wrap (at_ + n) = at_ + n := wrap64 (by omega) (by omega)
  have hw2 : IntKind.i64.wrap (l.length - at_) = l.length - at_ := wrap64 (by omega) (by omega)
  have hw3 : IntKind.i64.wrap (IntKind.i64.wrap (at_ + n) - n) = at_ := by rw [hw, wrap64] <;> omega
  refine agood eok (fn := Try.f76) kr_ de_ rfl kr_ ok_ ok_ ?_
  repeat' (first | refine o_cons ?_ | refine w_ok rfl ?_ | refine w_call rfl (getBig _ rfl _ _ hl (by omega)) ?_ | refine o_nil ?_ | refine q_then ?_ | refine sq ?_ | refine aw_seq ?_ | refine aw_reg ?_ | refine w_pT rfl ka rfl ?_ | refine w_pF rfl ka rfl ?_ | refine o_y rfl ka ?_ | refine o_nT rfl ka ?_ | refine o_nF rfl ka ?_ | refine o_nU rfl ?_ | refine aw_cT rfl ka ?_ | refine aw_cF rfl ka ?_ | refine o_gT rfl (fun h => ?_) (fun h => ?_) | refine o_gF rfl (fun h => ?_) (fun h => ?_) | refine aw_cond rfl (fun h => ?_) (fun h => ?_) | refine aw_block ?_ | refine aw_skip ?_ | refine aw_ret ?_ | refine q_ret ?_ | refine q_blockN ?_ | refine q_blockR ?_ | refine aw_exit ?_ | refine q_exit ?_ | refine q_blockE ?_ | refine q_blockX de_ ?_ | refine fin_r rfl ?_ | (refine w_req rfl ?_ ?_; · exact rq_) | (refine w_lk rfl ?_; refine ⟨_, lk_, ?_⟩) | refine w_look (l' := _ :: _) rfl rfl ?_ | refine w_look (l' := []) rfl rfl ?_ | refine w_req rfl ?_ ?_ | refine w_pick rfl (fun b => ?_) | refine l_call rfl (getBig _ rfl _ _ hl (by omega)) ?_ | refine aw_drw kr_ ?_ | refine d_cons ?_ | refine l_ok rfl ?_ | refine d_nil kr_ ?_ | refine d_y rfl ka ?_ | refine d_nT rfl ka ?_ | refine d_nF rfl ka ?_ | refine d_nU rfl ?_ | refine l_pT rfl ka rfl ?_ | refine l_pF rfl ka rfl ?_ | refine d_gT rfl (fun h => ?_) (fun h => ?_) | refine d_gF rfl (fun h => ?_) (fun h => ?_) | (refine l_req rfl ?_ ?_; · exact rq_) | (refine l_lk rfl ?_; refine ⟨_, lk_, ?_⟩) | refine l_look (l' := _ :: _) rfl rfl ?_ | refine l_look (l' := []) rfl rfl ?_ | refine l_req rfl ?_ ?_)
  · simp_all [takeBad, takeV, rdPB]
  · have hle : n ≤ l.length - at_ := by simp at h; rw [hw2] at h; omega
    refine l_call rfl (clone _ ?_ ?_) ?_
    · rw [hw3, hw, List.length_take, List.length_drop]; omega
    · rw [hw3, hw, List.length_take, List.length_drop]; omega
    repeat' (first | refine o_cons ?_ | refine w_ok rfl ?_ | refine w_call rfl (getBig _ rfl _ _ hl (by omega)) ?_ | refine o_nil ?_ | refine q_then ?_ | refine sq ?_ | refine aw_seq ?_ | refine aw_reg ?_ | refine w_pT rfl ka rfl ?_ | refine w_pF rfl ka rfl ?_ | refine o_y rfl ka ?_ | refine o_nT rfl ka ?_ | refine o_nF rfl ka ?_ | refine o_nU rfl ?_ | refine aw_cT rfl ka ?_ | refine aw_cF rfl ka ?_ | refine o_gT rfl (fun h => ?_) (fun h => ?_) | refine o_gF rfl (fun h => ?_) (fun h => ?_) | refine aw_cond rfl (fun h => ?_) (fun h => ?_) | refine aw_block ?_ | refine aw_skip ?_ | refine aw_ret ?_ | refine q_ret ?_ | refine q_blockN ?_ | refine q_blockR ?_ | refine aw_exit ?_ | refine q_exit ?_ | refine q_blockE ?_ | refine q_blockX de_ ?_ | refine fin_r rfl ?_ | (refine w_req rfl ?_ ?_; · exact rq_) | (refine w_lk rfl ?_; refine ⟨_, lk_, ?_⟩) | refine w_look (l' := _ :: _) rfl rfl ?_ | refine w_look (l' := []) rfl rfl ?_ | refine w_req rfl ?_ ?_ | refine w_pick rfl (fun b => ?_) | refine l_call rfl (getBig _ rfl _ _ hl (by omega)) ?_ | refine aw_drw kr_ ?_ | refine d_cons ?_ | refine l_ok rfl ?_ | refine d_nil kr_ ?_ | refine d_y rfl ka ?_ | refine d_nT rfl ka ?_ | refine d_nF rfl ka ?_ | refine d_nU rfl ?_ | refine l_pT rfl ka rfl ?_ | refine l_pF rfl ka rfl ?_ | refine d_gT rfl (fun h => ?_) (fun h => ?_) | refine d_gF rfl (fun h => ?_) (fun h => ?_) | (refine l_req rfl ?_ ?_; · exact rq_) | (refine l_lk rfl ?_; refine ⟨_, lk_, ?_⟩) | refine l_look (l' := _ :: _) rfl rfl ?_ | refine l_look (l' := []) rfl rfl ?_ | refine l_req rfl ?_ ?_)
    have hb : bad = false := by assumption
    have e1 : takeBad l at_ bad n = false := by unfold takeBad; rw [hb]; simp; omega
    have e2 : takeV l at_ bad n = (l.drop at_.toNat).take n.toNat := by unfold takeV; rw [e1]; rfl
    rw [hw3, hw, e1, e2, show (at_ + n).toNat - at_.toNat = n.toNat by omega, hb]
    rfl
  · simp_all [takeBad, takeV, rdPB]
end Go.Proofs.Ytbkpmljdmlhmhaa
