import Derived.Test.YtbkpmljdmlhmhaaX7
namespace Go.Proofs.Ytbkpmljdmlhmhaa
open Go Go.AM Ty
set_option maxRecDepth 100000
set_option maxHeartbeats 4000000
set_option linter.unusedVariables false
set_option linter.unusedSimpArgs false
attribute [local irreducible] aw aops aopsD wpo wpoL condW guardW thenQ blockQ finQ Le AGood
attribute [local irreducible] bigM
def putQ (r : Rc) : List UInt8 := bigM r.a.toNat 3 ++ bigM r.b.toNat 2 ++ [ub r.k, ub r.s.size] ++ r.s.data.toList ++ bigM r.n.toNat 4 ++ [ub r.d.length] ++ r.d
def putB (r : Rc) : List UInt8 := putQ r ++ bigM (crcM (putQ r)) 4
def putS (r : Rc) : ByteArray := if recOkM r then ⟨(putB r).toArray⟩ else ⟨#[]⟩
theorem recOk_nat {r : Rc} (h : recOkM r = true) : (0 ≤ r.a ∧ r.a ≤ 10000) ∧ (0 ≤ r.b ∧ r.b ≤ 199) ∧ (1 ≤ r.k ∧ r.k ≤ 4) ∧ (0 ≤ r.n ∧ r.n ≤ 1000000000) ∧ idOkM r.s = true ∧ r.d.length ≤ 24 := by
  unfold recOkM at h
  simp only [Bool.and_eq_true, decide_eq_true_eq] at h
  obtain ⟨⟨⟨⟨h1, h2⟩, h3⟩, h4⟩, h5⟩ := h
  split at h5
  · simp only [Bool.and_eq_true, decide_eq_true_eq, beq_iff_eq] at h5; exact ⟨h1, h2, h3, by omega, h4, by omega⟩
  · split at h5
    · simp only [Bool.and_eq_true, decide_eq_true_eq] at h5; exact ⟨h1, h2, h3, by omega, h4, by omega⟩
    · simp only [Bool.and_eq_true, decide_eq_true_eq, beq_iff_eq] at h5; exact ⟨h1, h2, h3, by omega, h4, by omega⟩
theorem crcM_lt (l : List UInt8) : crcM l < 4294967296 := Nat.xor_lt_two_pow (n := 32) (crcF_lt l) (by decide)
theorem putRec (r : Rc) {c : Nat} (hc : c = r.d.length) (hs : r.s.size ≤ 1048576) (hd : r.d.length ≤ 1048576) : AGood e.P 17 [r.pa c] (.str (putS r)) [keeps] := by
  subst hc
  cases hok : recOkM r with
  | false =>
    refine agood eok (fn := Try.f17) kr_ de_ rfl kr_ ok_ ok_ ?_
    repeat' (first | refine o_cons ?_ | refine w_ok rfl ?_ | refine w_call rfl (recOk _ rfl (by omega)) ?_ | refine o_nil ?_ | refine q_then ?_ | refine sq ?_ | refine aw_seq ?_ | refine aw_reg ?_ | refine w_pT rfl ka rfl ?_ | refine w_pF rfl ka rfl ?_ | refine o_y rfl ka ?_ | refine o_nT rfl ka ?_ | refine o_nF rfl ka ?_ | refine o_nU rfl ?_ | refine aw_cT rfl ka ?_ | refine aw_cF rfl ka ?_ | refine o_gT rfl (fun h => ?_) (fun h => ?_) | refine o_gF rfl (fun h => ?_) (fun h => ?_) | refine aw_cond rfl (fun h => ?_) (fun h => ?_) | refine aw_block ?_ | refine aw_skip ?_ | refine aw_ret ?_ | refine q_ret ?_ | refine q_blockN ?_ | refine q_blockR ?_ | refine aw_exit ?_ | refine q_exit ?_ | refine q_blockE ?_ | refine q_blockX de_ ?_ | refine fin_r rfl ?_ | (refine w_req rfl ?_ ?_; · exact rq_) | (refine w_lk rfl ?_; refine ⟨_, lk_, ?_⟩) | refine w_look (l' := _ :: _) rfl rfl ?_ | refine w_look (l' := []) rfl rfl ?_ | refine w_req rfl ?_ ?_ | refine w_pick rfl (fun b => ?_) | refine l_call rfl (recOk _ rfl (by omega)) ?_ | refine aw_drw kr_ ?_ | refine d_cons ?_ | refine l_ok rfl ?_ | refine d_nil kr_ ?_ | refine d_y rfl ka ?_ | refine d_nT rfl ka ?_ | refine d_nF rfl ka ?_ | refine d_nU rfl ?_ | refine l_pT rfl ka rfl ?_ | refine l_pF rfl ka rfl ?_ | refine d_gT rfl (fun h => ?_) (fun h => ?_) | refine d_gF rfl (fun h => ?_) (fun h => ?_) | (refine l_req rfl ?_ ?_; · exact rq_) | (refine l_lk rfl ?_; refine ⟨_, lk_, ?_⟩) | refine l_look (l' := _ :: _) rfl rfl ?_ | refine l_look (l' := []) rfl rfl ?_ | refine l_req rfl ?_ ?_)
    · unfold putS; rw [hok]; rfl
    · rw [hok] at h; cases h
  | true =>
    obtain ⟨h1, h2, h3, h4, h5, h6⟩ := recOk_nat hok
    obtain ⟨a, b, k, s, n, d⟩ := r
    simp only at h1 h2 h3 h4 h5 h6 hs hd
    obtain ⟨a, rfl⟩ := Int.eq_ofNat_of_zero_le h1.1
    obtain ⟨b, rfl⟩ := Int.eq_ofNat_of_zero_le h2.1
    obtain ⟨n, rfl⟩ := Int.eq_ofNat_of_zero_le h4.1
    refine agood eok (fn := Try.f17) kr_ de_ rfl kr_ ok_ ok_ ?_
    repeat' (first | refine o_cons ?_ | refine w_ok rfl ?_ | refine w_call rfl (recOk _ rfl (by simp only; omega)) ?_ | refine w_call rfl (putBig [] rfl _ 3 (by omega) (by omega) (by decide)) ?_ | refine w_call rfl (putBig _ len_ _ 2 (by omega) (by omega) len_) ?_ | refine w_call rfl (putBig _ len_ _ 4 (by omega) (by omega) len_) ?_ | refine w_call rfl (putBig _ len_ _ 4 (Nat.lt_trans (crcM_lt _) (by decide)) (by omega) len_) ?_ | refine w_call rfl (crc _ len_ len_) ?_ | refine o_nil ?_ | refine q_then ?_ | refine sq ?_ | refine aw_seq ?_ | refine aw_reg ?_ | refine w_pT rfl ka rfl ?_ | refine w_pF rfl ka rfl ?_ | refine o_y rfl ka ?_ | refine o_nT rfl ka ?_ | refine o_nF rfl ka ?_ | refine o_nU rfl ?_ | refine aw_cT rfl ka ?_ | refine aw_cF rfl ka ?_ | refine o_gT rfl (fun h => ?_) (fun h => ?_) | refine o_gF rfl (fun h => ?_) (fun h => ?_) | refine aw_cond rfl (fun h => ?_) (fun h => ?_) | refine aw_block ?_ | refine aw_skip ?_ | refine aw_ret ?_ | refine q_ret ?_ | refine q_blockN ?_ | refine q_blockR ?_ | refine aw_exit ?_ | refine q_exit ?_ | refine q_blockE ?_ | refine q_blockX de_ ?_ | refine fin_r rfl ?_ | (refine w_req rfl ?_ ?_; · exact rq_) | (refine w_lk rfl ?_; refine ⟨_, lk_, ?_⟩) | refine w_look (l' := _ :: _) rfl rfl ?_ | refine w_look (l' := []) rfl rfl ?_ | refine w_req rfl ?_ ?_ | refine w_pick rfl (fun b => ?_) | refine l_call rfl (recOk _ rfl (by simp only; omega)) ?_ | refine l_call rfl (putBig [] rfl _ 3 (by omega) (by omega) (by decide)) ?_ | refine l_call rfl (putBig _ len_ _ 2 (by omega) (by omega) len_) ?_ | refine l_call rfl (putBig _ len_ _ 4 (by omega) (by omega) len_) ?_ | refine l_call rfl (putBig _ len_ _ 4 (Nat.lt_trans (crcM_lt _) (by decide)) (by omega) len_) ?_ | refine l_call rfl (crc _ len_ len_) ?_ | refine aw_drw kr_ ?_ | refine d_cons ?_ | refine l_ok rfl ?_ | refine d_nil kr_ ?_ | refine d_y rfl ka ?_ | refine d_nT rfl ka ?_ | refine d_nF rfl ka ?_ | refine d_nU rfl ?_ | refine l_pT rfl ka rfl ?_ | refine l_pF rfl ka rfl ?_ | refine d_gT rfl (fun h => ?_) (fun h => ?_) | refine d_gF rfl (fun h => ?_) (fun h => ?_) | (refine l_req rfl ?_ ?_; · exact rq_) | (refine l_lk rfl ?_; refine ⟨_, lk_, ?_⟩) | refine l_look (l' := _ :: _) rfl rfl ?_ | refine l_look (l' := []) rfl rfl ?_ | refine l_req rfl ?_ ?_)
    · rw [hok] at h; cases h
    · refine congrArg (fun z => (Tr.str z, [keeps])) ?_
      unfold putS
      rw [hok, bT_bytes]
      rfl
theorem l13Put (r : Rc) {c : Nat} (hc : c = r.d.length) (hs : r.s.size ≤ 1048576) (hd : r.d.length ≤ 1048576) (hok : recOkM r = true) : AGood e.P 78 [r.pa c] (.str (putS r)) [keeps] := by
  subst hc
  have hok' := hok
  obtain ⟨h1, h2, h3, h4, h5, h6⟩ := recOk_nat hok
  obtain ⟨a, b, k, s, n, d⟩ := r
  simp only at h1 h2 h3 h4 h5 h6 hs hd
  obtain ⟨a, rfl⟩ := Int.eq_ofNat_of_zero_le h1.1
  obtain ⟨b, rfl⟩ := Int.eq_ofNat_of_zero_le h2.1
  obtain ⟨k, rfl⟩ := Int.eq_ofNat_of_zero_le (by omega : 0 ≤ k)
  obtain ⟨n, rfl⟩ := Int.eq_ofNat_of_zero_le h4.1
  dsimp only [Rc.pa]
  refine agood eok (fn := Try.f78) kr_ de_ rfl kr_ ok_ ok_ ?_
  repeat' (first | refine o_cons ?_ | refine w_ok rfl ?_ | refine w_call rfl (PutBig [] rfl _ 3 (by omega) (by omega) (by decide)) ?_ | refine w_call rfl (PutBig _ len_ _ 2 (by omega) (by omega) len_) ?_ | refine w_call rfl (PutBig _ len_ _ 1 (by omega) (by omega) len_) ?_ | refine w_call rfl (PutBig _ len_ _ 4 (by omega) (by omega) len_) ?_ | refine w_call rfl (PutBig _ len_ _ 4 (Nat.lt_trans (crcM_lt _) (by decide)) (by omega) len_) ?_ | refine w_call rfl (crcS _ len_ len_) ?_ | refine o_nil ?_ | refine q_then ?_ | refine sq ?_ | refine aw_seq ?_ | refine aw_reg ?_ | refine w_pT rfl ka rfl ?_ | refine w_pF rfl ka rfl ?_ | refine o_y rfl ka ?_ | refine o_nT rfl ka ?_ | refine o_nF rfl ka ?_ | refine o_nU rfl ?_ | refine aw_cT rfl ka ?_ | refine aw_cF rfl ka ?_ | refine o_gT rfl (fun h => ?_) (fun h => ?_) | refine o_gF rfl (fun h => ?_) (fun h => ?_) | refine aw_cond rfl (fun h => ?_) (fun h => ?_) | refine aw_block ?_ | refine aw_skip ?_ | refine aw_ret ?_ | refine q_ret ?_ | refine q_blockN ?_ | refine q_blockR ?_ | refine aw_exit ?_ | refine q_exit ?_ | refine q_blockE ?_ | refine q_blockX de_ ?_ | refine fin_r rfl ?_ | (refine w_req rfl ?_ ?_; · exact rq_) | (refine w_lk rfl ?_; refine ⟨_, lk_, ?_⟩) | refine w_look (l' := _ :: _) rfl rfl ?_ | refine w_look (l' := []) rfl rfl ?_ | refine w_req rfl ?_ ?_ | refine w_pick rfl (fun b => ?_) | refine l_call rfl (PutBig [] rfl _ 3 (by omega) (by omega) (by decide)) ?_ | refine l_call rfl (PutBig _ len_ _ 2 (by omega) (by omega) len_) ?_ | refine l_call rfl (PutBig _ len_ _ 1 (by omega) (by omega) len_) ?_ | refine l_call rfl (PutBig _ len_ _ 4 (by omega) (by omega) len_) ?_ | refine l_call rfl (PutBig _ len_ _ 4 (Nat.lt_trans (crcM_lt _) (by decide)) (by omega) len_) ?_ | refine l_call rfl (crcS _ len_ len_) ?_ | refine aw_drw kr_ ?_ | refine d_cons ?_ | refine l_ok rfl ?_ | refine d_nil kr_ ?_ | refine d_y rfl ka ?_ | refine d_nT rfl ka ?_ | refine d_nF rfl ka ?_ | refine d_nU rfl ?_ | refine l_pT rfl ka rfl ?_ | refine l_pF rfl ka rfl ?_ | refine d_gT rfl (fun h => ?_) (fun h => ?_) | refine d_gF rfl (fun h => ?_) (fun h => ?_) | (refine l_req rfl ?_ ?_; · exact rq_) | (refine l_lk rfl ?_; refine ⟨_, lk_, ?_⟩) | refine l_look (l' := _ :: _) rfl rfl ?_ | refine l_look (l' := []) rfl rfl ?_ | refine l_req rfl ?_ ?_)
  · refine congrArg (fun z => (Tr.str z, [keeps])) ?_
    unfold putS
    rw [hok, bT_bytes]
    have e1 : ∀ m : Nat, bigM m 1 = [ub m] := fun m => by rw [ub_nat]; unfold bigM; simp [bigM]
    simp only [e1]
    unfold putB putQ
    simp
end Go.Proofs.Ytbkpmljdmlhmhaa
