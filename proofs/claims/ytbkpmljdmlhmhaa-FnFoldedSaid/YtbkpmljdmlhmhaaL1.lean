import Derived.Laws.Strings
import Derived.Test.YtbkpmljdmlhmhaaMD
import Derived.Test.YtbkpmljdmlhmhaaX12
import Derived.Test.YtbkpmljdmlhmhaaE2
namespace Go.Proofs.Ytbkpmljdmlhmhaa
open Go Go.AM Ty
set_option maxRecDepth 100000
set_option maxHeartbeats 4000000
set_option linter.unusedVariables false
set_option linter.unusedSimpArgs false
attribute [local irreducible] aw aops aopsD wpo wpoL condW guardW thenQ blockQ finQ Le AGood
theorem recOk_zero : (zeroR.d.length ≤ 24) := by decide
theorem getRecM_ok {s : ByteArray} {r : Rc} (h : getRecM s = some r) : recOkM r = true ∧ putS r = s := by
  unfold getRecM at h
  cases hp : parse s.data.toList with
  | none => rw [hp] at h; cases h
  | some r' =>
    rw [hp] at h
    simp only [Option.bind_some] at h
    split at h
    · rename_i hc
      injection h with h
      subst h
      simp only [Bool.and_eq_true, beq_iff_eq] at hc
      refine ⟨hc.1, ?_⟩
      have h2 := hc.2
      rw [ByteArray.toList_eq, ByteArray.toList_eq] at h2
      have := Array.toList_inj.1 h2
      generalize putS r' = q at this
      cases q
      cases s
      exact congrArg ByteArray.mk this
    · cases h
theorem getRecM_len (s : ByteArray) : ((getRecM s).getD zeroR).d.length ≤ 24 := by
  cases h : getRecM s with
  | none => decide
  | some r => exact (recOk_nat (getRecM_ok h).1).2.2.2.2.2
attribute [local irreducible] getRecM
theorem law_FnExactGetRec (s : ByteArray) (_ : bdS s) : AGood e.P 4 [.ro (.str s)] (.bool true) [.keep] := by
  by_cases hs : s.size ≤ 1048576
  · have hl := getRecM_len s
    refine agood eok (fn := Try.f4) kr_ de_ rfl kr_ ok_ ok_ ?_
    repeat' (first | refine o_cons ?_ | refine w_ok rfl ?_ | refine w_call rfl (getRecS s hs) ?_ | refine w_call rfl (getRec s hs) ?_ | refine w_call rfl (eqRec ((getRecM s).getD zeroR) rfl rfl (by omega)) ?_ | refine w_call rfl (markRec ((getRecM s).getD zeroR) rfl 1 (by decide) (by omega)) ?_ | refine w_call rfl (heldRec ⟨_, _, _, _, _, markL 1 _⟩ 1 _ rfl (by decide) (by omega)) ?_ | refine o_nil ?_ | refine q_then ?_ | refine sq ?_ | refine aw_seq ?_ | refine aw_reg ?_ | refine w_pT rfl ka rfl ?_ | refine w_pF rfl ka rfl ?_ | refine o_y rfl ka ?_ | refine o_nT rfl ka ?_ | refine o_nF rfl ka ?_ | refine o_nU rfl ?_ | refine aw_cT rfl ka ?_ | refine aw_cF rfl ka ?_ | refine o_gT rfl (fun h => ?_) (fun h => ?_) | refine o_gF rfl (fun h => ?_) (fun h => ?_) | refine aw_cond rfl (fun h => ?_) (fun h => ?_) | refine aw_block ?_ | refine aw_skip ?_ | refine aw_ret ?_ | refine q_ret ?_ | refine q_blockN ?_ | refine q_blockR ?_ | refine aw_exit ?_ | refine q_exit ?_ | refine q_blockE ?_ | refine q_blockX de_ ?_ | refine fin_r rfl ?_ | (refine w_req rfl ?_ ?_; · exact rq_) | (refine w_lk rfl ?_; refine ⟨_, lk_, ?_⟩) | refine w_look (l' := _ :: _) rfl rfl ?_ | refine w_look (l' := []) rfl rfl ?_ | refine w_req rfl ?_ ?_ | refine w_pick rfl (fun b => ?_))
    all_goals first | rfl | (exfalso; simp at *)
  · refine agood eok (fn := Try.f4) kr_ de_ rfl kr_ ok_ ok_ ?_
    repeat' (first | refine o_cons ?_ | refine w_ok rfl ?_ | refine o_nil ?_ | refine q_then ?_ | refine sq ?_ | refine aw_seq ?_ | refine aw_reg ?_ | refine w_pT rfl ka rfl ?_ | refine w_pF rfl ka rfl ?_ | refine o_y rfl ka ?_ | refine o_nT rfl ka ?_ | refine o_nF rfl ka ?_ | refine o_nU rfl ?_ | refine aw_cT rfl ka ?_ | refine aw_cF rfl ka ?_ | refine o_gT rfl (fun h => ?_) (fun h => ?_) | refine o_gF rfl (fun h => ?_) (fun h => ?_) | refine aw_cond rfl (fun h => ?_) (fun h => ?_) | refine aw_block ?_ | refine aw_skip ?_ | refine aw_ret ?_ | refine q_ret ?_ | refine q_blockN ?_ | refine q_blockR ?_ | refine aw_exit ?_ | refine q_exit ?_ | refine q_blockE ?_ | refine q_blockX de_ ?_ | refine fin_r rfl ?_ | (refine w_req rfl ?_ ?_; · exact rq_) | (refine w_lk rfl ?_; refine ⟨_, lk_, ?_⟩) | refine w_look (l' := _ :: _) rfl rfl ?_ | refine w_look (l' := []) rfl rfl ?_ | refine w_req rfl ?_ ?_ | refine w_pick rfl (fun b => ?_))
    all_goals first | rfl | (exfalso; simp at *; omega)
end Go.Proofs.Ytbkpmljdmlhmhaa
