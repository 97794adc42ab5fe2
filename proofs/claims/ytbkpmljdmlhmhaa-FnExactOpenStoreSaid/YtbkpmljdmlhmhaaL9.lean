import Derived.Test.YtbkpmljdmlhmhaaS5
import Derived.Test.YtbkpmljdmlhmhaaOQ
namespace Go.Proofs.Ytbkpmljdmlhmhaa
open Go Go.AM Ty
set_option maxRecDepth 100000
set_option maxHeartbeats 4000000
set_option linter.unusedVariables false
set_option linter.unusedSimpArgs false
attribute [local irreducible] aw aops aopsD wpo wpoL condW guardW thenQ blockQ finQ Le AGood
theorem rq_L9 {p : Prop} (h : p := by first | assumption | exact uT_plain _ | exact sT_plain _ | exact rq_) : p := h
theorem ok_L9 {p : Prop} (h : p := by first | (simp [Tr.okR, Tr.okRL, Tr.plainL, Tr.plain, cells1, Tr.cellB, PB.okRL, PB.okR, bT_plain, sT_plain, oT_plain, nT_plain, uT_plain]; done) | exact ok_) : p := h
attribute [local irreducible] szD openM kSt
theorem law_FnExactOpenStore (x : List ByteArray × List ByteArray × Unit) (h : bdL bdS x.1 ∧ bdL bdS x.2.1 ∧ True) : AGood e.P 12 [dkR x.1 x.2.1 x.1.length x.2.1.length] (.bool true) [keep2] := by
  obtain ⟨a, b, u⟩ := x
  obtain ⟨ha, hb, _⟩ := h
  simp only at ha hb ⊢
  have c1 := szDisk a b rfl rfl 1048576 (by decide) ha hb
  rcases Int.lt_or_le (szD 1048576 a b) 0 with hneg | hpos
  · refine agood eok (fn := Try.f12) kr_ de_ rfl kr_ ok_L9 ok_L9 ?_
    have hc : decide (szD 1048576 a b < 0) = true := by simpa using hneg
    repeat' (first | refine o_cons ?_ | refine w_ok rfl ?_ | refine w_call rfl (c1) ?_ | refine o_nil ?_ | refine q_then ?_ | refine sq ?_ | refine aw_seq ?_ | refine aw_reg ?_ | refine w_pT rfl ka rfl ?_ | refine w_pF rfl ka rfl ?_ | refine o_y rfl ka ?_ | refine o_nT rfl ka ?_ | refine o_nF rfl ka ?_ | refine o_nU rfl ?_ | refine aw_cT rfl ka ?_ | refine aw_cF rfl ka ?_ | refine o_gT rfl (fun h => ?_) (fun h => ?_) | refine o_gF rfl (fun h => ?_) (fun h => ?_) | refine aw_cond rfl (fun h => ?_) (fun h => ?_) | refine aw_block ?_ | refine aw_skip ?_ | refine aw_ret ?_ | refine q_ret ?_ | refine q_blockN ?_ | refine q_blockR ?_ | refine aw_exit ?_ | refine q_exit ?_ | refine q_blockE ?_ | refine q_blockX de_ ?_ | refine fin_r rfl ?_ | (refine w_req rfl ?_ ?_; · exact rq_L9) | (refine w_lk rfl ?_; refine ⟨_, lk_, ?_⟩) | refine w_look (l' := _ :: _) rfl rfl ?_ | refine w_look (l' := []) rfl rfl ?_ | refine w_req rfl ?_ ?_ | refine w_pick rfl (fun b => ?_))
    rfl
  · have hc : decide (szD 1048576 a b < 0) = false := by simpa using hpos
    obtain ⟨⟨a1, a2⟩, b1, b2⟩ := szD_ok (by decide) hpos
    have c2 := toDisk a b rfl rfl (by omega) (by omega)
    have c3 := openS a b rfl rfl
    have c4 := openI a b rfl rfl
    obtain ⟨sm, hk⟩ := open_sm (a := a) (b := b)
    unfold openT at c3 c4
    generalize (openM a b).getD zeroSt = s at *
    generalize (openM a b).isSome = o at c3 c4
    have c5 := eqStore s sm
    have c6 := eqDisk a b rfl rfl rfl rfl (by omega) (by omega)
    have c7 := markDisk a b rfl rfl 1 (by decide) (by omega) (by omega)
    have c8 := markStore s sm hk
    have c9 := heldStore s sm hk
    have k1 : decide ((1 : Int) + a.length + b.length < 0) = false := by simp; omega
    have k2 : decide (kSt 1 s < 0) = false := by
      have : 1 ≤ kSt 1 s := by unfold kSt kAll; omega
      simp; omega
    have kb : (o != o) = false := by cases o <;> rfl
    refine agood eok (fn := Try.f12) kr_ de_ rfl kr_ ok_L9 ok_L9 ?_
    repeat' (first | refine o_cons ?_ | refine w_ok rfl ?_ | refine w_call rfl (c1) ?_ | refine w_call rfl (c2) ?_ | refine w_call rfl (c3) ?_ | refine w_call rfl (c4) ?_ | refine w_call rfl (c5) ?_ | refine w_call rfl (c6) ?_ | refine w_call rfl (c7) ?_ | refine w_call rfl (c8) ?_ | refine w_call rfl (c9) ?_ | refine o_nil ?_ | refine q_then ?_ | refine sq ?_ | refine aw_seq ?_ | refine aw_reg ?_ | refine w_pT rfl ka rfl ?_ | refine w_pF rfl ka rfl ?_ | refine o_y rfl ka ?_ | refine o_nT rfl ka ?_ | refine o_nF rfl ka ?_ | refine o_nU rfl ?_ | refine aw_cT rfl ka ?_ | refine aw_cF rfl ka ?_ | refine o_gT rfl (fun h => ?_) (fun h => ?_) | refine o_gF rfl (fun h => ?_) (fun h => ?_) | refine aw_cond rfl (fun h => ?_) (fun h => ?_) | refine aw_block ?_ | refine aw_skip ?_ | refine aw_ret ?_ | refine q_ret ?_ | refine q_blockN ?_ | refine q_blockR ?_ | refine aw_exit ?_ | refine q_exit ?_ | refine q_blockE ?_ | refine q_blockX de_ ?_ | refine fin_r rfl ?_ | (refine w_req rfl ?_ ?_; · exact rq_L9) | (refine w_lk rfl ?_; refine ⟨_, lk_, ?_⟩) | refine w_look (l' := _ :: _) rfl rfl ?_ | refine w_look (l' := []) rfl rfl ?_ | refine w_req rfl ?_ ?_ | refine w_pick rfl (fun b => ?_) | refine l_call rfl (c1) ?_ | refine l_call rfl (c2) ?_ | refine l_call rfl (c3) ?_ | refine l_call rfl (c4) ?_ | refine l_call rfl (c5) ?_ | refine l_call rfl (c6) ?_ | refine l_call rfl (c7) ?_ | refine l_call rfl (c8) ?_ | refine l_call rfl (c9) ?_ | refine aw_drw kr_ ?_ | refine d_cons ?_ | refine l_ok rfl ?_ | refine d_nil kr_ ?_ | refine d_y rfl ka ?_ | refine d_nT rfl ka ?_ | refine d_nF rfl ka ?_ | refine d_nU rfl ?_ | refine l_pT rfl ka rfl ?_ | refine l_pF rfl ka rfl ?_ | refine d_gT rfl (fun h => ?_) (fun h => ?_) | refine d_gF rfl (fun h => ?_) (fun h => ?_) | (refine l_req rfl ?_ ?_; · exact rq_L9) | (refine l_lk rfl ?_; refine ⟨_, lk_, ?_⟩) | refine l_look (l' := _ :: _) rfl rfl ?_ | refine l_look (l' := []) rfl rfl ?_ | refine l_req rfl ?_ ?_)
    all_goals first | rfl | (exfalso; simp at h)
end Go.Proofs.Ytbkpmljdmlhmhaa
