import Derived.Test.YtbkpmljdmlhmhaaX1
namespace Go.Proofs.Ytbkpmljdmlhmhaa
open Go Go.AM Ty
set_option maxRecDepth 100000
set_option maxHeartbeats 4000000
set_option linter.unusedVariables false
set_option linter.unusedSimpArgs false
attribute [local irreducible] aw aops aopsD wpo wpoL condW guardW thenQ blockQ finQ Le AGood
theorem strAt_get' {s : ByteArray} {i : Nat} (h : i < s.data.toList.length) : AM.strAt s (i : Int).toNat = ((s.data.toList[i]).toNat : Int) := by
  rw [strAt_get, getD_get h]
def okI (x : Int) : Prop := (97 ≤ x ∧ x ≤ 122) ∨ (48 ≤ x ∧ x ≤ 57)
def okB (b : UInt8) : Bool := (decide (97 ≤ b.toNat) && decide (b.toNat ≤ 122)) || (decide (48 ≤ b.toNat) && decide (b.toNat ≤ 57))
theorem okB_iff (b : UInt8) : okB b = true ↔ okI b.toNat := by unfold okB okI; generalize b.toNat = n; rw [Bool.or_eq_true, Bool.and_eq_true, Bool.and_eq_true, decide_eq_true_iff, decide_eq_true_iff, decide_eq_true_iff, decide_eq_true_iff]; omega
def idOkM (s : ByteArray) : Bool := s.data.toList.all okB && (decide (1 ≤ (s.size : Int)) && decide ((s.size : Int) ≤ 8))
theorem ok_no {s : ByteArray} {i : Nat} (hi : decide ((i : Int) < s.size) = true) (h : ¬ okI (AM.strAt s (i : Int).toNat)) : (Tr.bool false, [PB.keep]) = (Tr.bool (idOkM s), [PB.keep]) := by
  have hi : i < s.data.toList.length := by rw [← sz_len]; simpa using hi
  rw [strAt_get' hi, ← okB_iff] at h
  have : s.data.toList.all okB = false := by
    rw [List.all_eq_false]
    exact ⟨_, List.getElem_mem hi, h⟩
  unfold idOkM
  rw [this]; rfl
theorem ok_step {s : ByteArray} {i : Nat} (hi : decide ((i : Int) < s.size) = true) (h2 : (s.data.toList.take i).all okB = true) (h : okI (AM.strAt s (i : Int).toNat)) : (i + 1 ≤ s.size ∧ (s.data.toList.take (i + 1)).all okB = true) ∧ s.size - (i + 1) < s.size - i := by
  have hi' : i < s.data.toList.length := by rw [← sz_len]; simpa using hi
  rw [strAt_get' hi', ← okB_iff] at h
  have hi : i < s.size := by simpa using hi
  refine ⟨⟨hi, ?_⟩, by omega⟩
  rw [← List.take_append_getElem hi', List.all_append, h2]
  simp only [List.all_cons, List.all_nil, h, Bool.and_true]
theorem idOk (s : ByteArray) (hs : s.size ≤ 4294967296) : AGood e.P 74 [.ro (.str s)] (.bool (idOkM s)) [.keep] := by
  refine agood eok (fn := Try.f74) kr_ de_ rfl kr_ ok_ ok_ ?_
  repeat' (first | refine o_cons ?_ | refine w_ok rfl ?_ | refine o_nil ?_ | refine q_then ?_ | refine sq ?_ | refine aw_seq ?_ | refine aw_reg ?_ | refine w_pT rfl ka rfl ?_ | refine w_pF rfl ka rfl ?_ | refine o_y rfl ka ?_ | refine o_nT rfl ka ?_ | refine o_nF rfl ka ?_ | refine o_nU rfl ?_ | refine aw_cT rfl ka ?_ | refine aw_cF rfl ka ?_ | refine o_gT rfl (fun h => ?_) (fun h => ?_) | refine o_gF rfl (fun h => ?_) (fun h => ?_) | refine aw_cond rfl (fun h => ?_) (fun h => ?_) | refine aw_block ?_ | refine aw_skip ?_ | refine aw_ret ?_ | refine q_ret ?_ | refine q_blockN ?_ | refine q_blockR ?_ | refine aw_exit ?_ | refine q_exit ?_ | refine q_blockE ?_ | refine q_blockX de_ ?_ | refine fin_r rfl ?_ | (refine w_req rfl ?_ ?_; · exact rq_) | (refine w_lk rfl ?_; refine ⟨_, lk_, ?_⟩) | refine w_look (l' := _ :: _) rfl rfl ?_ | refine w_look (l' := []) rfl rfl ?_ | refine w_req rfl ?_ ?_ | refine w_pick rfl (fun b => ?_))
  refine loop1 (fun i : Nat => ⟨tbl [(0, .str s), (3, .int .i64 i)], mbl [], [.str s]⟩) (fun i => i ≤ s.size ∧ (s.data.toList.take i).all okB = true) (fun i => s.size - i) 0 (by simp) ?_ ?_
  · exact le_of [] (an rfl (an (an rfl (an (an rfl rfl) trivial)) (an trivial (an rfl trivial))))
  rintro i ⟨h1, h2⟩
  repeat' (first | refine o_cons ?_ | refine w_ok rfl ?_ | refine w_call rfl (inRange ..) ?_ | refine o_nil ?_ | refine q_then ?_ | refine sq ?_ | refine aw_seq ?_ | refine aw_reg ?_ | refine w_pT rfl ka rfl ?_ | refine w_pF rfl ka rfl ?_ | refine o_y rfl ka ?_ | refine o_nT rfl ka ?_ | refine o_nF rfl ka ?_ | refine o_nU rfl ?_ | refine aw_cT rfl ka ?_ | refine aw_cF rfl ka ?_ | refine o_gT rfl (fun h => ?_) (fun h => ?_) | refine o_gF rfl (fun h => ?_) (fun h => ?_) | refine aw_cond rfl (fun h => ?_) (fun h => ?_) | refine aw_block ?_ | refine aw_skip ?_ | refine aw_ret ?_ | refine q_ret ?_ | refine q_blockN ?_ | refine q_blockR ?_ | refine aw_exit ?_ | refine q_exit ?_ | refine q_blockE ?_ | refine q_blockX de_ ?_ | refine fin_r rfl ?_ | (refine w_req rfl ?_ ?_; · exact rq_) | (refine w_lk rfl ?_; refine ⟨_, lk_, ?_⟩) | refine w_look (l' := _ :: _) rfl rfl ?_ | refine w_look (l' := []) rfl rfl ?_ | refine w_req rfl ?_ ?_ | refine w_pick rfl (fun b => ?_))
  all_goals first
    | exact ok_no (by assumption) (by unfold okI; simp at *; omega)
    | exact ⟨i + 1, ok_step (by assumption) h2 (by unfold okI; simp at *; omega), le_of [] (an rfl (an (an rfl (an (an rfl (by rw [wrap64] <;> omega)) trivial)) (an trivial (an rfl trivial))))⟩
    | skip
  have h : ¬ (i : Int) < s.size := by simpa using h
  have : i = s.data.toList.length := by rw [← sz_len]; omega
  subst this
  rw [List.take_length] at h2
  unfold idOkM
  rw [h2]
  rfl
end Go.Proofs.Ytbkpmljdmlhmhaa
