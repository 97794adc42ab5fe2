import Derived.Test.YtbkpmljdmlhmhaaTy
import Derived.Test.YtbkpmljdmlhmhaaMD
namespace Go.Proofs.Ytbkpmljdmlhmhaa
open Go Go.AM Ty
set_option maxRecDepth 100000
set_option maxHeartbeats 4000000
set_option linter.unusedVariables false
set_option linter.unusedSimpArgs false
attribute [local irreducible] aw aops aopsD wpo wpoL condW guardW thenQ blockQ finQ Le AGood
def md (f : Nat) : List Hn := bif [68, 80, 25, 47, 91, 46, 39, 54, 38, 96, 134, 114, 142, 115].contains f then [.own] else bif Nat.beq f 133 then [.own, .ro, .own] else bif Nat.beq f 129 then [.ro, .nil] else bif Nat.beq f 136 then [.ro, .own] else []
noncomputable def e : Env := ⟨Try.prog, τ, md⟩
theorem eok : EnvOk e := ⟨Ty.ok, Try.checked.mixed⟩
theorem inRange (n lo hi : Int) : AGood e.P 73 [.ro (.int .i64 n), .ro (.int .i64 lo), .ro (.int .i64 hi)] (.bool (decide (lo ≤ n) && decide (n ≤ hi))) [.keep, .keep, .keep] := by
  refine agood eok (fn := Try.f73) kr_ de_ rfl kr_ ok_ ok_ ?_
  repeat' (first | refine o_cons ?_ | refine w_ok rfl ?_ | refine o_nil ?_ | refine q_then ?_ | refine sq ?_ | refine aw_seq ?_ | refine aw_reg ?_ | refine w_pT rfl ka rfl ?_ | refine w_pF rfl ka rfl ?_ | refine o_y rfl ka ?_ | refine o_nT rfl ka ?_ | refine o_nF rfl ka ?_ | refine o_nU rfl ?_ | refine aw_cT rfl ka ?_ | refine aw_cF rfl ka ?_ | refine o_gT rfl (fun h => ?_) (fun h => ?_) | refine o_gF rfl (fun h => ?_) (fun h => ?_) | refine aw_cond rfl (fun h => ?_) (fun h => ?_) | refine aw_block ?_ | refine aw_skip ?_ | refine aw_ret ?_ | refine q_ret ?_ | refine q_blockN ?_ | refine q_blockR ?_ | refine aw_exit ?_ | refine q_exit ?_ | refine q_blockE ?_ | refine q_blockX de_ ?_ | refine fin_r rfl ?_ | (refine w_req rfl ?_ ?_; · exact rq_) | (refine w_lk rfl ?_; refine ⟨_, lk_, ?_⟩) | refine w_look (l' := _ :: _) rfl rfl ?_ | refine w_look (l' := []) rfl rfl ?_ | refine w_req rfl ?_ ?_ | refine w_pick rfl (fun b => ?_))
  all_goals simp_all
  all_goals (intros; omega)
theorem inRangeS (n lo hi : Int) : AGood e.P 70 [.ro (.int .i64 n), .ro (.int .i64 lo), .ro (.int .i64 hi)] (.bool (decide (lo ≤ n) && decide (n ≤ hi))) [.keep, .keep, .keep] := by
  refine agood eok (fn := Try.f70) kr_ de_ rfl kr_ ok_ ok_ ?_
  repeat' (first | refine o_cons ?_ | refine w_ok rfl ?_ | refine o_nil ?_ | refine q_then ?_ | refine sq ?_ | refine aw_seq ?_ | refine aw_reg ?_ | refine w_pT rfl ka rfl ?_ | refine w_pF rfl ka rfl ?_ | refine o_y rfl ka ?_ | refine o_nT rfl ka ?_ | refine o_nF rfl ka ?_ | refine o_nU rfl ?_ | refine aw_cT rfl ka ?_ | refine aw_cF rfl ka ?_ | refine o_gT rfl (fun h => ?_) (fun h => ?_) | refine o_gF rfl (fun h => ?_) (fun h => ?_) | refine aw_cond rfl (fun h => ?_) (fun h => ?_) | refine aw_block ?_ | refine aw_skip ?_ | refine aw_ret ?_ | refine q_ret ?_ | refine q_blockN ?_ | refine q_blockR ?_ | refine aw_exit ?_ | refine q_exit ?_ | refine q_blockE ?_ | refine q_blockX de_ ?_ | refine fin_r rfl ?_ | (refine w_req rfl ?_ ?_; · exact rq_) | (refine w_lk rfl ?_; refine ⟨_, lk_, ?_⟩) | refine w_look (l' := _ :: _) rfl rfl ?_ | refine w_look (l' := []) rfl rfl ?_ | refine w_req rfl ?_ ?_ | refine w_pick rfl (fun b => ?_))
  all_goals simp_all
  all_goals (intros; omega)
theorem isEpoch (n : Int) : AGood e.P 72 [.ro (.int .i64 n)] (.bool (decide (0 ≤ n) && decide (n ≤ 10000))) [.keep] := by
  refine agood eok (fn := Try.f72) kr_ de_ rfl kr_ ok_ ok_ ?_
  repeat' (first | refine o_cons ?_ | refine w_ok rfl ?_ | refine w_call rfl (inRange ..) ?_ | refine o_nil ?_ | refine q_then ?_ | refine sq ?_ | refine aw_seq ?_ | refine aw_reg ?_ | refine w_pT rfl ka rfl ?_ | refine w_pF rfl ka rfl ?_ | refine o_y rfl ka ?_ | refine o_nT rfl ka ?_ | refine o_nF rfl ka ?_ | refine o_nU rfl ?_ | refine aw_cT rfl ka ?_ | refine aw_cF rfl ka ?_ | refine o_gT rfl (fun h => ?_) (fun h => ?_) | refine o_gF rfl (fun h => ?_) (fun h => ?_) | refine aw_cond rfl (fun h => ?_) (fun h => ?_) | refine aw_block ?_ | refine aw_skip ?_ | refine aw_ret ?_ | refine q_ret ?_ | refine q_blockN ?_ | refine q_blockR ?_ | refine aw_exit ?_ | refine q_exit ?_ | refine q_blockE ?_ | refine q_blockX de_ ?_ | refine fin_r rfl ?_ | (refine w_req rfl ?_ ?_; · exact rq_) | (refine w_lk rfl ?_; refine ⟨_, lk_, ?_⟩) | refine w_look (l' := _ :: _) rfl rfl ?_ | refine w_look (l' := []) rfl rfl ?_ | refine w_req rfl ?_ ?_ | refine w_pick rfl (fun b => ?_))
  rfl
end Go.Proofs.Ytbkpmljdmlhmhaa
