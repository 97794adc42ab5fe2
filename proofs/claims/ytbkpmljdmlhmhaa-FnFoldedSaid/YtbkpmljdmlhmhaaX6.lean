import Derived.Test.YtbkpmljdmlhmhaaX5
namespace Go.Proofs.Ytbkpmljdmlhmhaa
open Go Go.AM Ty
set_option maxRecDepth 100000
set_option maxHeartbeats 4000000
set_option linter.unusedVariables false
set_option linter.unusedSimpArgs false
attribute [local irreducible] aw aops aopsD wpo wpoL condW guardW thenQ blockQ finQ Le AGood
theorem ok_step' {s : ByteArray} {i : Nat} (hi : decide ((i : Int) < s.size) = true) (h2 : (s.data.toList.take i).all okB = true) (h : okI (AM.strAt s (i : Int).toNat)) : (i + 1 ≤ s.size ∧ (s.data.toList.take (i + 1)).all okB = true) ∧ s.size - (i + 1) < s.size - i := ok_step hi h2 h
theorem strAt_byte (s : ByteArray) (i : Nat) : 0 ≤ AM.strAt s i ∧ AM.strAt s i ≤ 255 := by
  unfold AM.strAt
  have := (s.data.toList.getD i 0).toNat_lt
  omega
theorem idOkS (s : ByteArray) (hs : s.size ≤ 4294967296) : AGood e.P 71 [.ro (.str s)] (.bool (idOkM s)) [.keep] := by
  refine agood eok (fn := Try.f71) kr_ de_ rfl kr_ ok_ ok_ ?_
  repeat' (first | refine o_cons ?_ | refine w_ok rfl ?_ | refine o_nil ?_ | refine q_then ?_ | refine sq ?_ | refine aw_seq ?_ | refine aw_reg ?_ | refine w_pT rfl ka rfl ?_ | refine w_pF rfl ka rfl ?_ | refine o_y rfl ka ?_ | refine o_nT rfl ka ?_ | refine o_nF rfl ka ?_ | refine o_nU rfl ?_ | refine aw_cT rfl ka ?_ | refine aw_cF rfl ka ?_ | refine o_gT rfl (fun h => ?_) (fun h => ?_) | refine o_gF rfl (fun h => ?_) (fun h => ?_) | refine aw_cond rfl (fun h => ?_) (fun h => ?_) | refine aw_block ?_ | refine aw_skip ?_ | refine aw_ret ?_ | refine q_ret ?_ | refine q_blockN ?_ | refine q_blockR ?_ | refine aw_exit ?_ | refine q_exit ?_ | refine q_blockE ?_ | refine q_blockX de_ ?_ | refine fin_r rfl ?_ | (refine w_req rfl ?_ ?_; · exact rq_) | (refine w_lk rfl ?_; refine ⟨_, lk_, ?_⟩) | refine w_look (l' := _ :: _) rfl rfl ?_ | refine w_look (l' := []) rfl rfl ?_ | refine w_req rfl ?_ ?_ | refine w_pick rfl (fun b => ?_))
  refine loop1 (fun i : Nat => ⟨tbl [(0, .str s), (3, .int .i64 i)], mbl [], [.str s]⟩) (fun i => i ≤ s.size ∧ (s.data.toList.take i).all okB = true) (fun i => s.size - i) 0 (by simp) ?_ ?_
  · (refine le_of [] ?_; repeat' (first | exact trivial | refine an ?_ ?_ | with_reducible rfl | exact bt rfl | exact Or.inl rfl | exact Or.inr rfl | exact Eq.refl _))
  rintro i ⟨h1, h2⟩
  have hb := strAt_byte s (i : Int).toNat
  have hw : IntKind.i64.wrap (AM.strAt s (i : Int).toNat) = AM.strAt s (i : Int).toNat := wrap64 (by omega) (by omega)
  repeat' (first | refine o_cons ?_ | refine w_ok rfl ?_ | refine w_call rfl (inRangeS ..) ?_ | refine o_nil ?_ | refine q_then ?_ | refine sq ?_ | refine aw_seq ?_ | refine aw_reg ?_ | refine w_pT rfl ka rfl ?_ | refine w_pF rfl ka rfl ?_ | refine o_y rfl ka ?_ | refine o_nT rfl ka ?_ | refine o_nF rfl ka ?_ | refine o_nU rfl ?_ | refine aw_cT rfl ka ?_ | refine aw_cF rfl ka ?_ | refine o_gT rfl (fun h => ?_) (fun h => ?_) | refine o_gF rfl (fun h => ?_) (fun h => ?_) | refine aw_cond rfl (fun h => ?_) (fun h => ?_) | refine aw_block ?_ | refine aw_skip ?_ | refine aw_ret ?_ | refine q_ret ?_ | refine q_blockN ?_ | refine q_blockR ?_ | refine aw_exit ?_ | refine q_exit ?_ | refine q_blockE ?_ | refine q_blockX de_ ?_ | refine fin_r rfl ?_ | (refine w_req rfl ?_ ?_; · exact rq_) | (refine w_lk rfl ?_; refine ⟨_, lk_, ?_⟩) | refine w_look (l' := _ :: _) rfl rfl ?_ | refine w_look (l' := []) rfl rfl ?_ | refine w_req rfl ?_ ?_ | refine w_pick rfl (fun b => ?_))
  all_goals try simp only [hw] at *
  all_goals first
    | exact ok_no (by assumption) (by unfold okI; simp at *; omega)
    | (refine ⟨i + 1, ok_step (by assumption) h2 (by unfold okI; simp at *; omega), ?_⟩; (refine le_of [] ?_; repeat' (first | exact trivial | refine an ?_ ?_ | with_reducible rfl | exact bt rfl | exact Or.inl rfl | exact Or.inr rfl | exact Eq.refl _)); rw [wrap64] <;> omega)
    | skip
  have h : ¬ (i : Int) < s.size := by simpa using h
  have : i = s.data.toList.length := by rw [← sz_len]; omega
  subst this
  rw [List.take_length] at h2
  unfold idOkM
  rw [h2]
  rfl
structure Rc where
  a : Int
  b : Int
  k : Int
  s : ByteArray
  n : Int
  d : List UInt8
abbrev Rc.pa (r : Rc) (c : Nat) : PA := .agg [.ro (.int .i64 r.a), .ro (.int .i64 r.b), .ro (.int .i64 r.k), .ro (.str r.s), .ro (.int .i64 r.n), .ro (.row 1 c (bT r.d))]
abbrev keeps : PB := .agg [.keep, .keep, .keep, .keep, .keep, .keep]
def recOkM (r : Rc) : Bool := (decide (0 ≤ r.a) && decide (r.a ≤ 10000)) && (decide (0 ≤ r.b) && decide (r.b ≤ 199)) && (decide (1 ≤ r.k) && decide (r.k ≤ 4)) && idOkM r.s &&
  (if r.k = 1 then (decide (0 ≤ r.n) && decide (r.n ≤ 1000000000)) && ((r.d.length : Int) == 0) else if r.k = 2 then (decide (0 ≤ r.n) && decide (r.n ≤ 1000000000)) && (decide (1 ≤ (r.d.length : Int)) && decide ((r.d.length : Int) ≤ 24)) else decide (r.n = 0) && ((r.d.length : Int) == 0))
theorem recOk (r : Rc) {c : Nat} (hc : c = r.d.length) (hs : r.s.size ≤ 4294967296) : AGood e.P 19 [r.pa c] (.bool (recOkM r)) [keeps] := by
  subst hc
  refine agood eok (fn := Try.f19) kr_ de_ rfl kr_ ok_ ok_ ?_
  repeat' (first | refine o_cons ?_ | refine w_ok rfl ?_ | refine w_call rfl (inRange ..) ?_ | refine w_call rfl (isEpoch ..) ?_ | refine w_call rfl (idOk _ hs) ?_ | refine o_nil ?_ | refine q_then ?_ | refine sq ?_ | refine aw_seq ?_ | refine aw_reg ?_ | refine w_pT rfl ka rfl ?_ | refine w_pF rfl ka rfl ?_ | refine o_y rfl ka ?_ | refine o_nT rfl ka ?_ | refine o_nF rfl ka ?_ | refine o_nU rfl ?_ | refine aw_cT rfl ka ?_ | refine aw_cF rfl ka ?_ | refine o_gT rfl (fun h => ?_) (fun h => ?_) | refine o_gF rfl (fun h => ?_) (fun h => ?_) | refine aw_cond rfl (fun h => ?_) (fun h => ?_) | refine aw_block ?_ | refine aw_skip ?_ | refine aw_ret ?_ | refine q_ret ?_ | refine q_blockN ?_ | refine q_blockR ?_ | refine aw_exit ?_ | refine q_exit ?_ | refine q_blockE ?_ | refine q_blockX de_ ?_ | refine fin_r rfl ?_ | (refine w_req rfl ?_ ?_; · exact rq_) | (refine w_lk rfl ?_; refine ⟨_, lk_, ?_⟩) | refine w_look (l' := _ :: _) rfl rfl ?_ | refine w_look (l' := []) rfl rfl ?_ | refine w_req rfl ?_ ?_ | refine w_pick rfl (fun b => ?_))
  all_goals (refine congrArg (fun z => (Tr.bool z, [keeps])) ?_; unfold recOkM; simp_all)
  all_goals try (intros; omega)
theorem recOkS (r : Rc) {c : Nat} (hc : c = r.d.length) (hs : r.s.size ≤ 4294967296) : AGood e.P 18 [r.pa c] (.bool (recOkM r)) [keeps] := by
  subst hc
  refine agood eok (fn := Try.f18) kr_ de_ rfl kr_ ok_ ok_ ?_
  repeat' (first | refine o_cons ?_ | refine w_ok rfl ?_ | refine w_call rfl (inRangeS ..) ?_ | refine w_call rfl (idOkS _ hs) ?_ | refine o_nil ?_ | refine q_then ?_ | refine sq ?_ | refine aw_seq ?_ | refine aw_reg ?_ | refine w_pT rfl ka rfl ?_ | refine w_pF rfl ka rfl ?_ | refine o_y rfl ka ?_ | refine o_nT rfl ka ?_ | refine o_nF rfl ka ?_ | refine o_nU rfl ?_ | refine aw_cT rfl ka ?_ | refine aw_cF rfl ka ?_ | refine o_gT rfl (fun h => ?_) (fun h => ?_) | refine o_gF rfl (fun h => ?_) (fun h => ?_) | refine aw_cond rfl (fun h => ?_) (fun h => ?_) | refine aw_block ?_ | refine aw_skip ?_ | refine aw_ret ?_ | refine q_ret ?_ | refine q_blockN ?_ | refine q_blockR ?_ | refine aw_exit ?_ | refine q_exit ?_ | refine q_blockE ?_ | refine q_blockX de_ ?_ | refine fin_r rfl ?_ | (refine w_req rfl ?_ ?_; · exact rq_) | (refine w_lk rfl ?_; refine ⟨_, lk_, ?_⟩) | refine w_look (l' := _ :: _) rfl rfl ?_ | refine w_look (l' := []) rfl rfl ?_ | refine w_req rfl ?_ ?_ | refine w_pick rfl (fun b => ?_))
  all_goals (refine congrArg (fun z => (Tr.bool z, [keeps])) ?_; unfold recOkM; simp_all)
  all_goals try (intros; omega)
end Go.Proofs.Ytbkpmljdmlhmhaa
