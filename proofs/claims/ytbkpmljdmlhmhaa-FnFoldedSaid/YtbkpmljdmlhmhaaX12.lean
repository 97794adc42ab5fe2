import Derived.Test.YtbkpmljdmlhmhaaX11
namespace Go.Proofs.Ytbkpmljdmlhmhaa
open Go Go.AM Ty
set_option maxRecDepth 100000
set_option maxHeartbeats 4000000
set_option linter.unusedVariables false
set_option linter.unusedSimpArgs false
attribute [local irreducible] aw aops aopsD wpo wpoL condW guardW thenQ blockQ finQ Le AGood
attribute [local irreducible] recOkM putS getV getOk
theorem recTr_of {a b k n : Int} {s : ByteArray} {c : Nat} {d : List UInt8} {ps : List PB} (hc : c = d.length) : (Tr.tup [.agg [.int .i64 a, .int .i64 b, .int .i64 k, .str s, .int .i64 n, .row 1 c (bT d)], .bool true], ps) = (recTr (some ⟨a, b, k, s, n, d⟩), ps) := by subst hc; rfl
theorem getRecS (s : ByteArray) (hs : s.size ≤ 1048576) : AGood e.P 23 [.ro (.str s)] (recTr (getRecM s)) [.keep] := by
  have hl : s.data.toList.length ≤ 4294967296 := by rw [← sz_len]; omega
  have hl2 : s.data.toList.length ≤ 1048576 := by rw [← sz_len]; exact hs
  have hc : s.size = s.data.toList.length := sz_len s
  obtain ⟨v1, o1, w1⟩ : ∃ v o, v = getV s.data.toList 0 3 ∧ o = getOk s.data.toList.length 0 3 := ⟨_, _, rfl, rfl⟩
  have c1 := getBigS s.data.toList hc 0 3 hl (by decide)
  rw [← w1.1, ← w1.2] at c1
  obtain ⟨v2, o2, w2⟩ : ∃ v o, v = getV s.data.toList 3 2 ∧ o = getOk s.data.toList.length 3 2 := ⟨_, _, rfl, rfl⟩
  have c2 := getBigS s.data.toList hc 3 2 hl (by decide)
  rw [← w2.1, ← w2.2] at c2
  obtain ⟨v3, o3, w3⟩ : ∃ v o, v = getV s.data.toList 5 1 ∧ o = getOk s.data.toList.length 5 1 := ⟨_, _, rfl, rfl⟩
  have c3 := getBigS s.data.toList hc 5 1 hl (by decide)
  rw [← w3.1, ← w3.2] at c3
  obtain ⟨n, o4, w4⟩ : ∃ v o, v = getV s.data.toList 6 1 ∧ o = getOk s.data.toList.length 6 1 := ⟨_, _, rfl, rfl⟩
  have c4 := getBigS s.data.toList hc 6 1 hl (by decide)
  rw [← w4.1, ← w4.2] at c4
  have hn : 0 ≤ n ∧ n ≤ 255 := by rw [w4.1]; exact getV1 _ _
  have k7 : IntKind.i64.wrap (7 + n) = 7 + n := wrap64 (by omega) (by omega)
  have k11 : IntKind.i64.wrap (11 + n) = 11 + n := wrap64 (by omega) (by omega)
  have k12 : IntKind.i64.wrap (12 + n) = 12 + n := wrap64 (by omega) (by omega)
  obtain ⟨v5, o5, w5⟩ : ∃ v o, v = getV s.data.toList (7 + n) 4 ∧ o = getOk s.data.toList.length (7 + n) 4 := ⟨_, _, rfl, rfl⟩
  have c5 := getBigS s.data.toList hc (IntKind.i64.wrap (7 + n)) 4 hl (by decide)
  rw [show getV s.data.toList (IntKind.i64.wrap (7 + n)) 4 = v5 by rw [k7, w5.1], show getOk s.data.toList.length (IntKind.i64.wrap (7 + n)) 4 = o5 by rw [k7, w5.2]] at c5
  obtain ⟨m, o6, w6⟩ : ∃ v o, v = getV s.data.toList (11 + n) 1 ∧ o = getOk s.data.toList.length (11 + n) 1 := ⟨_, _, rfl, rfl⟩
  have c6 := getBigS s.data.toList hc (IntKind.i64.wrap (11 + n)) 1 hl (by decide)
  rw [show getV s.data.toList (IntKind.i64.wrap (11 + n)) 1 = m by rw [k11, w6.1], show getOk s.data.toList.length (IntKind.i64.wrap (11 + n)) 1 = o6 by rw [k11, w6.2]] at c6
  have hm : 0 ≤ m ∧ m ≤ 255 := by rw [w6.1]; exact getV1 _ _
  have k13 : IntKind.i64.wrap (12 + n + m) = 12 + n + m := wrap64 (by omega) (by omega)
  obtain ⟨t1, ht1⟩ : ∃ t, t = (s.data.toList.drop 7).take n.toNat := ⟨_, rfl⟩
  obtain ⟨t2, ht2⟩ : ∃ t, t = (s.data.toList.drop (12 + n).toNat).take m.toNat := ⟨_, rfl⟩
  have q1 : (s.data.toList.drop (7 : Int).toNat).take ((IntKind.i64.wrap (7 + n)).toNat - (7 : Int).toNat) = t1 := by
    rw [k7, ht1, show (7 + n).toNat - (7 : Int).toNat = n.toNat by omega]; rfl
  have q2 : (s.data.toList.drop (IntKind.i64.wrap (12 + n)).toNat).take ((IntKind.i64.wrap (IntKind.i64.wrap (12 + n) + m)).toNat - (IntKind.i64.wrap (12 + n)).toNat) = t2 := by
    rw [k12, k13, ht2, show (12 + n + m).toNat - (12 + n).toNat = m.toNat by omega]
  have u1 : t1.length ≤ 1048576 := by rw [ht1, List.length_take, List.length_drop]; omega
  have u2 : t2.length ≤ 1048576 := by rw [ht2, List.length_take, List.length_drop]; omega
  obtain ⟨rok, hrok⟩ : ∃ b, b = recOkM ⟨v1, v2, v3, ⟨t1.toArray⟩, v5, t2⟩ := ⟨_, rfl⟩
  obtain ⟨ps, hps⟩ : ∃ b, b = putS ⟨v1, v2, v3, ⟨t1.toArray⟩, v5, t2⟩ := ⟨_, rfl⟩
  have hM : getRecM s = if o1 && o2 && o3 && o4 && decide (7 + n ≤ (s.size : Int)) && o5 && o6 && decide (12 + n + m ≤ (s.size : Int)) then (if rok && ps.toList == s.toList then some ⟨v1, v2, v3, ⟨t1.toArray⟩, v5, t2⟩ else none) else none := by
    unfold getRecM parse
    rw [sz_len s, ← w4.1, ← w5.1, ← w6.1, ← w1.1, ← w2.1, ← w3.1, ← w1.2, ← w2.2, ← w3.2, ← w4.2, ← w5.2, ← w6.2, ← ht1, ← ht2]
    split
    · rw [hrok, hps]; rfl
    · rfl
  have hrec : (⟨v1, v2, v3, ⟨((bT ((s.data.toList.drop (7 : Int).toNat).take ((IntKind.i64.wrap (7 + n)).toNat - (7 : Int).toNat))).map AM.byteTr).toArray⟩, v5, ((s.data.toList.drop (IntKind.i64.wrap (12 + n)).toNat).take ((IntKind.i64.wrap (IntKind.i64.wrap (12 + n) + m)).toNat - (IntKind.i64.wrap (12 + n)).toNat))⟩ : Rc) = ⟨v1, v2, v3, ⟨t1.toArray⟩, v5, t2⟩ := by rw [q1, q2, bT_bytes]
  have hd1 : (Rc.d ⟨v1, v2, v3, ⟨((bT ((s.data.toList.drop (7 : Int).toNat).take ((IntKind.i64.wrap (7 + n)).toNat - (7 : Int).toNat))).map AM.byteTr).toArray⟩, v5, ((s.data.toList.drop (IntKind.i64.wrap (12 + n)).toNat).take ((IntKind.i64.wrap (IntKind.i64.wrap (12 + n) + m)).toNat - (IntKind.i64.wrap (12 + n)).toNat))⟩).length = t2.length := by rw [hrec]
  have hs1 : (Rc.s ⟨v1, v2, v3, ⟨((bT ((s.data.toList.drop (7 : Int).toNat).take ((IntKind.i64.wrap (7 + n)).toNat - (7 : Int).toNat))).map AM.byteTr).toArray⟩, v5, ((s.data.toList.drop (IntKind.i64.wrap (12 + n)).toNat).take ((IntKind.i64.wrap (IntKind.i64.wrap (12 + n) + m)).toNat - (IntKind.i64.wrap (12 + n)).toNat))⟩).size = t1.length := by rw [hrec]; rfl
  have cR : ∀ c, c = t2.length → AGood e.P 18 [Rc.pa ⟨v1, v2, v3, ⟨((bT ((s.data.toList.drop (7 : Int).toNat).take ((IntKind.i64.wrap (7 + n)).toNat - (7 : Int).toNat))).map AM.byteTr).toArray⟩, v5, ((s.data.toList.drop (IntKind.i64.wrap (12 + n)).toNat).take ((IntKind.i64.wrap (IntKind.i64.wrap (12 + n) + m)).toNat - (IntKind.i64.wrap (12 + n)).toNat))⟩ c] (.bool rok) [keeps] := fun c hc => by rw [hrok, ← hrec]; exact recOkS _ (c := c) (hc.trans hd1.symm) (by rw [hs1]; omega)
  have cP : ∀ c, c = t2.length → rok = true → AGood e.P 78 [Rc.pa ⟨v1, v2, v3, ⟨((bT ((s.data.toList.drop (7 : Int).toNat).take ((IntKind.i64.wrap (7 + n)).toNat - (7 : Int).toNat))).map AM.byteTr).toArray⟩, v5, ((s.data.toList.drop (IntKind.i64.wrap (12 + n)).toNat).take ((IntKind.i64.wrap (IntKind.i64.wrap (12 + n) + m)).toNat - (IntKind.i64.wrap (12 + n)).toNat))⟩ c] (.str ps) [keeps] := fun c hc h => by rw [hps, ← hrec]; exact l13Put _ (c := c) (hc.trans hd1.symm) (by rw [hs1]; exact u1) (by rw [hd1]; exact u2) (by rw [hrec, ← hrok]; exact h)
  have e1 : 12 + n + m ≤ (s.size : Int) → (IntKind.i64.wrap (IntKind.i64.wrap (12 + n) + m)).toNat - (IntKind.i64.wrap (12 + n)).toNat = t2.length := fun h => by
    rw [k12, k13, ht2, List.length_take, List.length_drop]; omega
  refine agood eok (fn := Try.f23) (by kernel_rfl) (by decide) rfl (by kernel_rfl) (recTr_okR _) (by simp [PB.okRL, PB.okR]) ?_
  rw [hM]
  replace q1 : Hd _ := q1
  replace q2 : Hd _ := q2
  replace e1 : Hd _ := e1
  clear hM w1 w2 w3 w4 w5 w6 ht1 ht2 hrok hps hc hrec hd1 hs1
  repeat' (first | refine o_cons ?_ | refine w_ok rfl ?_ | refine w_call rfl (c1) ?_ | refine w_call rfl (c2) ?_ | refine w_call rfl (c3) ?_ | refine w_call rfl (c4) ?_ | refine w_call rfl (c5) ?_ | refine w_call rfl (c6) ?_ | refine w_call rfl (cR _ (by rw [Nat.zero_add]; exact e1.out (by simp_all))) ?_ | refine w_call rfl (cP _ (by rw [Nat.zero_add]; exact e1.out (by simp_all)) (by simp_all)) ?_ | refine o_nil ?_ | refine q_then ?_ | refine sq ?_ | refine aw_seq ?_ | refine aw_reg ?_ | refine w_pT rfl ka rfl ?_ | refine w_pF rfl ka rfl ?_ | refine o_y rfl ka ?_ | refine o_nT rfl ka ?_ | refine o_nF rfl ka ?_ | refine o_nU rfl ?_ | refine aw_cT rfl ka ?_ | refine aw_cF rfl ka ?_ | refine o_gT rfl (fun h => ?_) (fun h => ?_) | refine o_gF rfl (fun h => ?_) (fun h => ?_) | refine aw_cond rfl (fun h => ?_) (fun h => ?_) | refine aw_block ?_ | refine aw_skip ?_ | refine aw_ret ?_ | refine q_ret ?_ | refine q_blockN ?_ | refine q_blockR ?_ | refine aw_exit ?_ | refine q_exit ?_ | refine q_blockE ?_ | refine q_blockX de_ ?_ | refine fin_r rfl ?_ | (refine w_req rfl ?_ ?_; · exact rq_) | (refine w_lk rfl ?_; refine ⟨_, lk_, ?_⟩) | refine w_look (l' := _ :: _) rfl rfl ?_ | refine w_look (l' := []) rfl rfl ?_ | refine w_req rfl ?_ ?_ | refine w_pick rfl (fun b => ?_) | refine l_call rfl (c1) ?_ | refine l_call rfl (c2) ?_ | refine l_call rfl (c3) ?_ | refine l_call rfl (c4) ?_ | refine l_call rfl (c5) ?_ | refine l_call rfl (c6) ?_ | refine l_call rfl (cR _ (by rw [Nat.zero_add]; exact e1.out (by simp_all))) ?_ | refine l_call rfl (cP _ (by rw [Nat.zero_add]; exact e1.out (by simp_all)) (by simp_all)) ?_ | refine aw_drw kr_ ?_ | refine d_cons ?_ | refine l_ok rfl ?_ | refine d_nil kr_ ?_ | refine d_y rfl ka ?_ | refine d_nT rfl ka ?_ | refine d_nF rfl ka ?_ | refine d_nU rfl ?_ | refine l_pT rfl ka rfl ?_ | refine l_pF rfl ka rfl ?_ | refine d_gT rfl (fun h => ?_) (fun h => ?_) | refine d_gF rfl (fun h => ?_) (fun h => ?_) | (refine l_req rfl ?_ ?_; · exact rq_) | (refine l_lk rfl ?_; refine ⟨_, lk_, ?_⟩) | refine l_look (l' := _ :: _) rfl rfl ?_ | refine l_look (l' := []) rfl rfl ?_ | refine l_req rfl ?_ ?_)
  all_goals clear c1 c2 c3 c4 c5 c6 cR cP
  all_goals simp only [k7, k12, k13, decide_eq_true_eq, decide_eq_false_iff_not, Bool.not_eq_true', Bool.not_eq_false', gt_iff_lt, Int.not_lt] at *
  all_goals subst_vars
  all_goals first
    | (rw [if_neg ?_]
       · rfl
       all_goals first
         | (simp only [Bool.and_eq_true, decide_eq_true_eq]; omega)
         | (simp; done))
    | (rw [if_pos ?_, if_neg ?_]
       · rfl
       all_goals first
         | (simp only [Bool.and_eq_true, decide_eq_true_eq]; omega)
         | (simp_all; done))
    | (rw [if_pos ?_, if_pos ?_, bT_bytes]
       · exact recTr_of (by rw [Nat.zero_add]; exact e1.out (by assumption))
       all_goals first
         | (simp only [Bool.and_eq_true, decide_eq_true_eq]; omega)
         | (simp_all; done))
end Go.Proofs.Ytbkpmljdmlhmhaa
