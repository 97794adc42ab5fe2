import Derived.Test.YtmckbfmadgfddaaG4
import Derived.Test.YtmckbfmadgfddaaG6
namespace Go.Proofs.Ytmckbfmadgfddaa
open Go Go.AM Ty
set_option maxRecDepth 100000
set_option maxHeartbeats 4000000
set_option linter.unusedVariables false
set_option linter.unusedSimpArgs false
attribute [local irreducible] aw aops aopsD wpo wpoL condW guardW thenQ blockQ finQ Le AGood
theorem ok_G7 {p : Prop} (h : p := by first | exact feedT_ok _ | exact ok_) : p := h
attribute [local irreducible] fCode unpM
theorem feedS (x : Gt) (y : Fm) {c d : Nat} (hc : c = x.d.length) (hd : d = y.d.length) (hx : x.d.length ≤ 1048576) (hy : y.d.length ≤ 1048576) : AGood e.P 6 [x.pa c, y.pa d] (feedT (feedM x y)) [kp3, kp4] := by
  subst hc; subst hd
  have c1 := gatherOkS x rfl
  have c2 := frameCodeS y rfl
  have c4 := copyGatherS x rfl hx
  have c5 := unpadS y rfl hy
  have q1 : (x.d.length + y.d.length) * 1 ≤ 140737488355328 ∧ x.d.length + y.d.length ≤ 140737488355328 := by omega
  have hM : ∃ M, feedM x y = M := ⟨_, rfl⟩
  obtain ⟨M, hM⟩ := hM
  rw [hM]
  unfold feedM at hM
  cases b1 : gOk x with
  | false =>
    rw [b1] at c1
    rw [if_pos (.inl b1)] at hM
    subst hM
    refine agood eok (fn := Try.f6) kr_ de_ rfl kr_ ok_G7 ok_G7 ?_
    repeat' (first | refine o_cons ?_ | refine w_ok rfl ?_ | refine w_call rfl (c1) ?_ | refine w_call rfl (c4) ?_ | refine o_nil ?_ | refine q_then ?_ | refine sq ?_ | refine aw_seq ?_ | refine aw_reg ?_ | refine w_pT rfl ka rfl ?_ | refine w_pF rfl ka rfl ?_ | refine o_y rfl ka ?_ | refine o_nT rfl ka ?_ | refine o_nF rfl ka ?_ | refine o_nU rfl ?_ | refine aw_cT rfl ka ?_ | refine aw_cF rfl ka ?_ | refine o_gT rfl (fun h => ?_) (fun h => ?_) | refine o_gF rfl (fun h => ?_) (fun h => ?_) | refine aw_cond rfl (fun h => ?_) (fun h => ?_) | refine aw_block ?_ | refine aw_skip ?_ | refine aw_ret ?_ | refine q_ret ?_ | refine q_blockN ?_ | refine q_blockR ?_ | refine aw_exit ?_ | refine q_exit ?_ | refine q_blockE ?_ | refine q_blockX de_ ?_ | refine fin_r rfl ?_ | (refine w_req rfl ?_ ?_; · exact rq_) | (refine w_lk rfl ?_; refine ⟨_, lk_, ?_⟩) | refine w_look (l' := _ :: _) rfl rfl ?_ | refine w_look (l' := []) rfl rfl ?_ | refine w_req rfl ?_ ?_ | refine w_pick rfl (fun b => ?_) | refine l_call rfl (c1) ?_ | refine l_call rfl (c4) ?_ | refine aw_drw kr_ ?_ | refine d_cons ?_ | refine l_ok rfl ?_ | refine d_nil kr_ ?_ | refine d_y rfl ka ?_ | refine d_nT rfl ka ?_ | refine d_nF rfl ka ?_ | refine d_nU rfl ?_ | refine l_pT rfl ka rfl ?_ | refine l_pF rfl ka rfl ?_ | refine d_gT rfl (fun h => ?_) (fun h => ?_) | refine d_gF rfl (fun h => ?_) (fun h => ?_) | (refine l_req rfl ?_ ?_; · exact rq_) | (refine l_lk rfl ?_; refine ⟨_, lk_, ?_⟩) | refine l_look (l' := _ :: _) rfl rfl ?_ | refine l_look (l' := []) rfl rfl ?_ | refine l_req rfl ?_ ?_)
    rfl
  | true =>
    rw [b1] at c1
    by_cases b2 : fCode y = 0
    · have k2 : (fCode y != 0) = false := by rw [b2]; rfl
      by_cases h0 : x.t = 0
      · have r1 : decide (x.t > 0) = false := decide_eq_false (by omega)
        have r2 : (x.t == 0) = true := by simpa using h0
        by_cases hk9 : y.k = 9
        · have r3 : (y.k == 9) = true := by simpa using hk9
          have b3 : iOrd x y = false := by unfold iOrd; rw [if_neg (fun h => h h0), hk9]; rfl
          rw [if_pos (.inr (.inr b3))] at hM
          subst hM
          refine agood eok (fn := Try.f6) kr_ de_ rfl kr_ ok_G7 ok_G7 ?_
          repeat' (first | refine o_cons ?_ | refine w_ok rfl ?_ | refine w_call rfl (c1) ?_ | refine w_call rfl (c2) ?_ | refine w_call rfl (c4) ?_ | refine o_nil ?_ | refine q_then ?_ | refine sq ?_ | refine aw_seq ?_ | refine aw_reg ?_ | refine w_pT rfl ka rfl ?_ | refine w_pF rfl ka rfl ?_ | refine o_y rfl ka ?_ | refine o_nT rfl ka ?_ | refine o_nF rfl ka ?_ | refine o_nU rfl ?_ | refine aw_cT rfl ka ?_ | refine aw_cF rfl ka ?_ | refine o_gT rfl (fun h => ?_) (fun h => ?_) | refine o_gF rfl (fun h => ?_) (fun h => ?_) | refine aw_cond rfl (fun h => ?_) (fun h => ?_) | refine aw_block ?_ | refine aw_skip ?_ | refine aw_ret ?_ | refine q_ret ?_ | refine q_blockN ?_ | refine q_blockR ?_ | refine aw_exit ?_ | refine q_exit ?_ | refine q_blockE ?_ | refine q_blockX de_ ?_ | refine fin_r rfl ?_ | (refine w_req rfl ?_ ?_; · exact rq_) | (refine w_lk rfl ?_; refine ⟨_, lk_, ?_⟩) | refine w_look (l' := _ :: _) rfl rfl ?_ | refine w_look (l' := []) rfl rfl ?_ | refine w_req rfl ?_ ?_ | refine w_pick rfl (fun b => ?_) | refine l_call rfl (c1) ?_ | refine l_call rfl (c2) ?_ | refine l_call rfl (c4) ?_ | refine aw_drw kr_ ?_ | refine d_cons ?_ | refine l_ok rfl ?_ | refine d_nil kr_ ?_ | refine d_y rfl ka ?_ | refine d_nT rfl ka ?_ | refine d_nF rfl ka ?_ | refine d_nU rfl ?_ | refine l_pT rfl ka rfl ?_ | refine l_pF rfl ka rfl ?_ | refine d_gT rfl (fun h => ?_) (fun h => ?_) | refine d_gF rfl (fun h => ?_) (fun h => ?_) | (refine l_req rfl ?_ ?_; · exact rq_) | (refine l_lk rfl ?_; refine ⟨_, lk_, ?_⟩) | refine l_look (l' := _ :: _) rfl rfl ?_ | refine l_look (l' := []) rfl rfl ?_ | refine l_req rfl ?_ ?_)
          rfl
        · have r3 : (y.k == 9) = false := by simpa using hk9
          have b3 : iOrd x y = true := by unfold iOrd; rw [if_neg (fun h => h h0)]; simpa using hk9
          rw [if_neg (by rw [b1, b2, b3]; simp)] at hM
          by_cases hk1 : y.k = 1
          · have k3 : (y.k == 1) = true := by simpa using hk1
            rw [if_pos hk1] at hM
            cases hu : unpM y with
            | none =>
              rw [hu] at c5 hM
              simp only at hM
              subst hM
              refine agood eok (fn := Try.f6) kr_ de_ rfl kr_ ok_G7 ok_G7 ?_
              repeat' (first | refine o_cons ?_ | refine w_ok rfl ?_ | refine w_call rfl (c1) ?_ | refine w_call rfl (c2) ?_ | refine w_call rfl (c4) ?_ | refine w_call rfl (c5) ?_ | refine o_nil ?_ | refine q_then ?_ | refine sq ?_ | refine aw_seq ?_ | refine aw_reg ?_ | refine w_pT rfl ka rfl ?_ | refine w_pF rfl ka rfl ?_ | refine o_y rfl ka ?_ | refine o_nT rfl ka ?_ | refine o_nF rfl ka ?_ | refine o_nU rfl ?_ | refine aw_cT rfl ka ?_ | refine aw_cF rfl ka ?_ | refine o_gT rfl (fun h => ?_) (fun h => ?_) | refine o_gF rfl (fun h => ?_) (fun h => ?_) | refine aw_cond rfl (fun h => ?_) (fun h => ?_) | refine aw_block ?_ | refine aw_skip ?_ | refine aw_ret ?_ | refine q_ret ?_ | refine q_blockN ?_ | refine q_blockR ?_ | refine aw_exit ?_ | refine q_exit ?_ | refine q_blockE ?_ | refine q_blockX de_ ?_ | refine fin_r rfl ?_ | (refine w_req rfl ?_ ?_; · exact rq_) | (refine w_lk rfl ?_; refine ⟨_, lk_, ?_⟩) | refine w_look (l' := _ :: _) rfl rfl ?_ | refine w_look (l' := []) rfl rfl ?_ | refine w_req rfl ?_ ?_ | refine w_pick rfl (fun b => ?_) | refine l_call rfl (c1) ?_ | refine l_call rfl (c2) ?_ | refine l_call rfl (c4) ?_ | refine l_call rfl (c5) ?_ | refine aw_drw kr_ ?_ | refine d_cons ?_ | refine l_ok rfl ?_ | refine d_nil kr_ ?_ | refine d_y rfl ka ?_ | refine d_nT rfl ka ?_ | refine d_nF rfl ka ?_ | refine d_nU rfl ?_ | refine l_pT rfl ka rfl ?_ | refine l_pF rfl ka rfl ?_ | refine d_gT rfl (fun h => ?_) (fun h => ?_) | refine d_gF rfl (fun h => ?_) (fun h => ?_) | (refine l_req rfl ?_ ?_; · exact rq_) | (refine l_lk rfl ?_; refine ⟨_, lk_, ?_⟩) | refine l_look (l' := _ :: _) rfl rfl ?_ | refine l_look (l' := []) rfl rfl ?_ | refine l_req rfl ?_ ?_)
              rfl
            | some b =>
              rw [hu] at c5 hM
              have c5 : AGood e.P 22 [y.pa y.d.length] (.tup [.row 1 b.length (bT b), .bool true]) [kp4] := c5
              simp only at hM
              unfold finM at hM
              by_cases hq : 3000 < b.length
              · have k4 : decide (((b.length : Nat) : Int) > 3000) = true := decide_eq_true (by omega)
                rw [if_pos hq] at hM
                subst hM
                refine agood eok (fn := Try.f6) kr_ de_ rfl kr_ ok_G7 ok_G7 ?_
                repeat' (first | refine o_cons ?_ | refine w_ok rfl ?_ | refine w_call rfl (c1) ?_ | refine w_call rfl (c2) ?_ | refine w_call rfl (c4) ?_ | refine w_call rfl (c5) ?_ | refine o_nil ?_ | refine q_then ?_ | refine sq ?_ | refine aw_seq ?_ | refine aw_reg ?_ | refine w_pT rfl ka rfl ?_ | refine w_pF rfl ka rfl ?_ | refine o_y rfl ka ?_ | refine o_nT rfl ka ?_ | refine o_nF rfl ka ?_ | refine o_nU rfl ?_ | refine aw_cT rfl ka ?_ | refine aw_cF rfl ka ?_ | refine o_gT rfl (fun h => ?_) (fun h => ?_) | refine o_gF rfl (fun h => ?_) (fun h => ?_) | refine aw_cond rfl (fun h => ?_) (fun h => ?_) | refine aw_block ?_ | refine aw_skip ?_ | refine aw_ret ?_ | refine q_ret ?_ | refine q_blockN ?_ | refine q_blockR ?_ | refine aw_exit ?_ | refine q_exit ?_ | refine q_blockE ?_ | refine q_blockX de_ ?_ | refine fin_r rfl ?_ | (refine w_req rfl ?_ ?_; · exact rq_) | (refine w_lk rfl ?_; refine ⟨_, lk_, ?_⟩) | refine w_look (l' := _ :: _) rfl rfl ?_ | refine w_look (l' := []) rfl rfl ?_ | refine w_req rfl ?_ ?_ | refine w_pick rfl (fun b => ?_) | refine l_call rfl (c1) ?_ | refine l_call rfl (c2) ?_ | refine l_call rfl (c4) ?_ | refine l_call rfl (c5) ?_ | refine aw_drw kr_ ?_ | refine d_cons ?_ | refine l_ok rfl ?_ | refine d_nil kr_ ?_ | refine d_y rfl ka ?_ | refine d_nT rfl ka ?_ | refine d_nF rfl ka ?_ | refine d_nU rfl ?_ | refine l_pT rfl ka rfl ?_ | refine l_pF rfl ka rfl ?_ | refine d_gT rfl (fun h => ?_) (fun h => ?_) | refine d_gF rfl (fun h => ?_) (fun h => ?_) | (refine l_req rfl ?_ ?_; · exact rq_) | (refine l_lk rfl ?_; refine ⟨_, lk_, ?_⟩) | refine l_look (l' := _ :: _) rfl rfl ?_ | refine l_look (l' := []) rfl rfl ?_ | refine l_req rfl ?_ ?_)
                rfl
              · have k4 : decide (((b.length : Nat) : Int) > 3000) = false := decide_eq_false (by omega)
                rw [if_neg hq] at hM
                cases hb : (andI y.g 4 != 0) with
                | true =>
                  have p2 := hb
                  unfold andI at p2
                  rw [hb, if_pos rfl] at hM
                  subst hM
                  refine agood eok (fn := Try.f6) kr_ de_ rfl kr_ ok_G7 ok_G7 ?_
                  repeat' (first | refine o_cons ?_ | refine w_ok rfl ?_ | refine w_call rfl (c1) ?_ | refine w_call rfl (c2) ?_ | refine w_call rfl (c4) ?_ | refine w_call rfl (c5) ?_ | refine o_nil ?_ | refine q_then ?_ | refine sq ?_ | refine aw_seq ?_ | refine aw_reg ?_ | refine w_pT rfl ka rfl ?_ | refine w_pF rfl ka rfl ?_ | refine o_y rfl ka ?_ | refine o_nT rfl ka ?_ | refine o_nF rfl ka ?_ | refine o_nU rfl ?_ | refine aw_cT rfl ka ?_ | refine aw_cF rfl ka ?_ | refine o_gT rfl (fun h => ?_) (fun h => ?_) | refine o_gF rfl (fun h => ?_) (fun h => ?_) | refine aw_cond rfl (fun h => ?_) (fun h => ?_) | refine aw_block ?_ | refine aw_skip ?_ | refine aw_ret ?_ | refine q_ret ?_ | refine q_blockN ?_ | refine q_blockR ?_ | refine aw_exit ?_ | refine q_exit ?_ | refine q_blockE ?_ | refine q_blockX de_ ?_ | refine fin_r rfl ?_ | (refine w_req rfl ?_ ?_; · exact rq_) | (refine w_lk rfl ?_; refine ⟨_, lk_, ?_⟩) | refine w_look (l' := _ :: _) rfl rfl ?_ | refine w_look (l' := []) rfl rfl ?_ | refine w_req rfl ?_ ?_ | refine w_pick rfl (fun b => ?_) | refine l_call rfl (c1) ?_ | refine l_call rfl (c2) ?_ | refine l_call rfl (c4) ?_ | refine l_call rfl (c5) ?_ | refine aw_drw kr_ ?_ | refine d_cons ?_ | refine l_ok rfl ?_ | refine d_nil kr_ ?_ | refine d_y rfl ka ?_ | refine d_nT rfl ka ?_ | refine d_nF rfl ka ?_ | refine d_nU rfl ?_ | refine l_pT rfl ka rfl ?_ | refine l_pF rfl ka rfl ?_ | refine d_gT rfl (fun h => ?_) (fun h => ?_) | refine d_gF rfl (fun h => ?_) (fun h => ?_) | (refine l_req rfl ?_ ?_; · exact rq_) | (refine l_lk rfl ?_; refine ⟨_, lk_, ?_⟩) | refine l_look (l' := _ :: _) rfl rfl ?_ | refine l_look (l' := []) rfl rfl ?_ | refine l_req rfl ?_ ?_)
                  rfl
                | false =>
                  have p2 := hb
                  unfold andI at p2
                  rw [hb, if_neg Bool.false_ne_true] at hM
                  subst hM
                  refine agood eok (fn := Try.f6) kr_ de_ rfl kr_ ok_G7 ok_G7 ?_
                  repeat' (first | refine o_cons ?_ | refine w_ok rfl ?_ | refine w_call rfl (c1) ?_ | refine w_call rfl (c2) ?_ | refine w_call rfl (c4) ?_ | refine w_call rfl (c5) ?_ | refine o_nil ?_ | refine q_then ?_ | refine sq ?_ | refine aw_seq ?_ | refine aw_reg ?_ | refine w_pT rfl ka rfl ?_ | refine w_pF rfl ka rfl ?_ | refine o_y rfl ka ?_ | refine o_nT rfl ka ?_ | refine o_nF rfl ka ?_ | refine o_nU rfl ?_ | refine aw_cT rfl ka ?_ | refine aw_cF rfl ka ?_ | refine o_gT rfl (fun h => ?_) (fun h => ?_) | refine o_gF rfl (fun h => ?_) (fun h => ?_) | refine aw_cond rfl (fun h => ?_) (fun h => ?_) | refine aw_block ?_ | refine aw_skip ?_ | refine aw_ret ?_ | refine q_ret ?_ | refine q_blockN ?_ | refine q_blockR ?_ | refine aw_exit ?_ | refine q_exit ?_ | refine q_blockE ?_ | refine q_blockX de_ ?_ | refine fin_r rfl ?_ | (refine w_req rfl ?_ ?_; · exact rq_) | (refine w_lk rfl ?_; refine ⟨_, lk_, ?_⟩) | refine w_look (l' := _ :: _) rfl rfl ?_ | refine w_look (l' := []) rfl rfl ?_ | refine w_req rfl ?_ ?_ | refine w_pick rfl (fun b => ?_) | refine l_call rfl (c1) ?_ | refine l_call rfl (c2) ?_ | refine l_call rfl (c4) ?_ | refine l_call rfl (c5) ?_ | refine aw_drw kr_ ?_ | refine d_cons ?_ | refine l_ok rfl ?_ | refine d_nil kr_ ?_ | refine d_y rfl ka ?_ | refine d_nT rfl ka ?_ | refine d_nF rfl ka ?_ | refine d_nU rfl ?_ | refine l_pT rfl ka rfl ?_ | refine l_pF rfl ka rfl ?_ | refine d_gT rfl (fun h => ?_) (fun h => ?_) | refine d_gF rfl (fun h => ?_) (fun h => ?_) | (refine l_req rfl ?_ ?_; · exact rq_) | (refine l_lk rfl ?_; refine ⟨_, lk_, ?_⟩) | refine l_look (l' := _ :: _) rfl rfl ?_ | refine l_look (l' := []) rfl rfl ?_ | refine l_req rfl ?_ ?_)
                  rfl
          · have k3 : (y.k == 1) = false := by simpa using hk1
            rw [if_neg hk1, if_neg hk9] at hM
            subst hM
            refine agood eok (fn := Try.f6) kr_ de_ rfl kr_ ok_G7 ok_G7 ?_
            repeat' (first | refine o_cons ?_ | refine w_ok rfl ?_ | refine w_call rfl (c1) ?_ | refine w_call rfl (c2) ?_ | refine w_call rfl (c4) ?_ | refine o_nil ?_ | refine q_then ?_ | refine sq ?_ | refine aw_seq ?_ | refine aw_reg ?_ | refine w_pT rfl ka rfl ?_ | refine w_pF rfl ka rfl ?_ | refine o_y rfl ka ?_ | refine o_nT rfl ka ?_ | refine o_nF rfl ka ?_ | refine o_nU rfl ?_ | refine aw_cT rfl ka ?_ | refine aw_cF rfl ka ?_ | refine o_gT rfl (fun h => ?_) (fun h => ?_) | refine o_gF rfl (fun h => ?_) (fun h => ?_) | refine aw_cond rfl (fun h => ?_) (fun h => ?_) | refine aw_block ?_ | refine aw_skip ?_ | refine aw_ret ?_ | refine q_ret ?_ | refine q_blockN ?_ | refine q_blockR ?_ | refine aw_exit ?_ | refine q_exit ?_ | refine q_blockE ?_ | refine q_blockX de_ ?_ | refine fin_r rfl ?_ | (refine w_req rfl ?_ ?_; · exact rq_) | (refine w_lk rfl ?_; refine ⟨_, lk_, ?_⟩) | refine w_look (l' := _ :: _) rfl rfl ?_ | refine w_look (l' := []) rfl rfl ?_ | refine w_req rfl ?_ ?_ | refine w_pick rfl (fun b => ?_) | refine l_call rfl (c1) ?_ | refine l_call rfl (c2) ?_ | refine l_call rfl (c4) ?_ | refine aw_drw kr_ ?_ | refine d_cons ?_ | refine l_ok rfl ?_ | refine d_nil kr_ ?_ | refine d_y rfl ka ?_ | refine d_nT rfl ka ?_ | refine d_nF rfl ka ?_ | refine d_nU rfl ?_ | refine l_pT rfl ka rfl ?_ | refine l_pF rfl ka rfl ?_ | refine d_gT rfl (fun h => ?_) (fun h => ?_) | refine d_gF rfl (fun h => ?_) (fun h => ?_) | (refine l_req rfl ?_ ?_; · exact rq_) | (refine l_lk rfl ?_; refine ⟨_, lk_, ?_⟩) | refine l_look (l' := _ :: _) rfl rfl ?_ | refine l_look (l' := []) rfl rfl ?_ | refine l_req rfl ?_ ?_)
            rfl
      · have ht : 1 ≤ x.t := by
          unfold gOk at b1
          rw [if_neg h0] at b1
          simp at b1
          omega
        have r1 : decide (x.t > 0) = true := decide_eq_true (by omega)
        have r2 : (x.t == 0) = false := by simpa using h0
        by_cases hk9 : y.k = 9
        · have r3 : (y.k != 9) = false := by rw [hk9]; rfl
          have k9 : (y.k == 9) = true := by simpa using hk9
          have k3 : (y.k == 1) = false := by rw [hk9]; rfl
          by_cases hts : y.t = x.t
          · have r4 : (y.t != x.t) = false := by simpa using hts
            have b3 : iOrd x y = true := by unfold iOrd; rw [if_pos h0, hk9, hts]; simp
            rw [if_neg (by rw [b1, b2, b3]; simp), if_neg (by omega), if_pos hk9] at hM
            unfold finM at hM
            simp only [List.length_append] at hM
            by_cases hq : 3000 < x.d.length + y.d.length
            · have k4 : decide (((x.d.length + y.d.length : Nat) : Int) > 3000) = true := decide_eq_true (by omega)
              rw [if_pos hq] at hM
              subst hM
              refine agood eok (fn := Try.f6) kr_ de_ rfl kr_ ok_G7 ok_G7 ?_
              repeat' (first | refine o_cons ?_ | refine w_ok rfl ?_ | refine w_call rfl (c1) ?_ | refine w_call rfl (c2) ?_ | refine w_call rfl (c4) ?_ | refine o_nil ?_ | refine q_then ?_ | refine sq ?_ | refine aw_seq ?_ | refine aw_reg ?_ | refine w_pT rfl ka rfl ?_ | refine w_pF rfl ka rfl ?_ | refine o_y rfl ka ?_ | refine o_nT rfl ka ?_ | refine o_nF rfl ka ?_ | refine o_nU rfl ?_ | refine aw_cT rfl ka ?_ | refine aw_cF rfl ka ?_ | refine o_gT rfl (fun h => ?_) (fun h => ?_) | refine o_gF rfl (fun h => ?_) (fun h => ?_) | refine aw_cond rfl (fun h => ?_) (fun h => ?_) | refine aw_block ?_ | refine aw_skip ?_ | refine aw_ret ?_ | refine q_ret ?_ | refine q_blockN ?_ | refine q_blockR ?_ | refine aw_exit ?_ | refine q_exit ?_ | refine q_blockE ?_ | refine q_blockX de_ ?_ | refine fin_r rfl ?_ | (refine w_req rfl ?_ ?_; · exact rq_) | (refine w_lk rfl ?_; refine ⟨_, lk_, ?_⟩) | refine w_look (l' := _ :: _) rfl rfl ?_ | refine w_look (l' := []) rfl rfl ?_ | refine w_req rfl ?_ ?_ | refine w_pick rfl (fun b => ?_) | refine l_call rfl (c1) ?_ | refine l_call rfl (c2) ?_ | refine l_call rfl (c4) ?_ | refine aw_drw kr_ ?_ | refine d_cons ?_ | refine l_ok rfl ?_ | refine d_nil kr_ ?_ | refine d_y rfl ka ?_ | refine d_nT rfl ka ?_ | refine d_nF rfl ka ?_ | refine d_nU rfl ?_ | refine l_pT rfl ka rfl ?_ | refine l_pF rfl ka rfl ?_ | refine d_gT rfl (fun h => ?_) (fun h => ?_) | refine d_gF rfl (fun h => ?_) (fun h => ?_) | (refine l_req rfl ?_ ?_; · exact rq_) | (refine l_lk rfl ?_; refine ⟨_, lk_, ?_⟩) | refine l_look (l' := _ :: _) rfl rfl ?_ | refine l_look (l' := []) rfl rfl ?_ | refine l_req rfl ?_ ?_)
              rfl
            · have k4 : decide (((x.d.length + y.d.length : Nat) : Int) > 3000) = false := decide_eq_false (by omega)
              rw [if_neg hq] at hM
              cases hb : (andI y.g 4 != 0) with
              | true =>
                have p2 := hb
                unfold andI at p2
                rw [hb, if_pos rfl] at hM
                subst hM
                refine agood eok (fn := Try.f6) kr_ de_ rfl kr_ ok_G7 ok_G7 ?_
                repeat' (first | refine o_cons ?_ | refine w_ok rfl ?_ | refine w_call rfl (c1) ?_ | refine w_call rfl (c2) ?_ | refine w_call rfl (c4) ?_ | refine o_nil ?_ | refine q_then ?_ | refine sq ?_ | refine aw_seq ?_ | refine aw_reg ?_ | refine w_pT rfl ka rfl ?_ | refine w_pF rfl ka rfl ?_ | refine o_y rfl ka ?_ | refine o_nT rfl ka ?_ | refine o_nF rfl ka ?_ | refine o_nU rfl ?_ | refine aw_cT rfl ka ?_ | refine aw_cF rfl ka ?_ | refine o_gT rfl (fun h => ?_) (fun h => ?_) | refine o_gF rfl (fun h => ?_) (fun h => ?_) | refine aw_cond rfl (fun h => ?_) (fun h => ?_) | refine aw_block ?_ | refine aw_skip ?_ | refine aw_ret ?_ | refine q_ret ?_ | refine q_blockN ?_ | refine q_blockR ?_ | refine aw_exit ?_ | refine q_exit ?_ | refine q_blockE ?_ | refine q_blockX de_ ?_ | refine fin_r rfl ?_ | (refine w_req rfl ?_ ?_; · exact rq_) | (refine w_lk rfl ?_; refine ⟨_, lk_, ?_⟩) | refine w_look (l' := _ :: _) rfl rfl ?_ | refine w_look (l' := []) rfl rfl ?_ | refine w_req rfl ?_ ?_ | refine w_pick rfl (fun b => ?_) | refine l_call rfl (c1) ?_ | refine l_call rfl (c2) ?_ | refine l_call rfl (c4) ?_ | refine aw_drw kr_ ?_ | refine d_cons ?_ | refine l_ok rfl ?_ | refine d_nil kr_ ?_ | refine d_y rfl ka ?_ | refine d_nT rfl ka ?_ | refine d_nF rfl ka ?_ | refine d_nU rfl ?_ | refine l_pT rfl ka rfl ?_ | refine l_pF rfl ka rfl ?_ | refine d_gT rfl (fun h => ?_) (fun h => ?_) | refine d_gF rfl (fun h => ?_) (fun h => ?_) | (refine l_req rfl ?_ ?_; · exact rq_) | (refine l_lk rfl ?_; refine ⟨_, lk_, ?_⟩) | refine l_look (l' := _ :: _) rfl rfl ?_ | refine l_look (l' := []) rfl rfl ?_ | refine l_req rfl ?_ ?_)
                exact tup_len2 List.length_append.symm _
              | false =>
                have p2 := hb
                unfold andI at p2
                rw [hb, if_neg Bool.false_ne_true] at hM
                subst hM
                refine agood eok (fn := Try.f6) kr_ de_ rfl kr_ ok_G7 ok_G7 ?_
                repeat' (first | refine o_cons ?_ | refine w_ok rfl ?_ | refine w_call rfl (c1) ?_ | refine w_call rfl (c2) ?_ | refine w_call rfl (c4) ?_ | refine o_nil ?_ | refine q_then ?_ | refine sq ?_ | refine aw_seq ?_ | refine aw_reg ?_ | refine w_pT rfl ka rfl ?_ | refine w_pF rfl ka rfl ?_ | refine o_y rfl ka ?_ | refine o_nT rfl ka ?_ | refine o_nF rfl ka ?_ | refine o_nU rfl ?_ | refine aw_cT rfl ka ?_ | refine aw_cF rfl ka ?_ | refine o_gT rfl (fun h => ?_) (fun h => ?_) | refine o_gF rfl (fun h => ?_) (fun h => ?_) | refine aw_cond rfl (fun h => ?_) (fun h => ?_) | refine aw_block ?_ | refine aw_skip ?_ | refine aw_ret ?_ | refine q_ret ?_ | refine q_blockN ?_ | refine q_blockR ?_ | refine aw_exit ?_ | refine q_exit ?_ | refine q_blockE ?_ | refine q_blockX de_ ?_ | refine fin_r rfl ?_ | (refine w_req rfl ?_ ?_; · exact rq_) | (refine w_lk rfl ?_; refine ⟨_, lk_, ?_⟩) | refine w_look (l' := _ :: _) rfl rfl ?_ | refine w_look (l' := []) rfl rfl ?_ | refine w_req rfl ?_ ?_ | refine w_pick rfl (fun b => ?_) | refine l_call rfl (c1) ?_ | refine l_call rfl (c2) ?_ | refine l_call rfl (c4) ?_ | refine aw_drw kr_ ?_ | refine d_cons ?_ | refine l_ok rfl ?_ | refine d_nil kr_ ?_ | refine d_y rfl ka ?_ | refine d_nT rfl ka ?_ | refine d_nF rfl ka ?_ | refine d_nU rfl ?_ | refine l_pT rfl ka rfl ?_ | refine l_pF rfl ka rfl ?_ | refine d_gT rfl (fun h => ?_) (fun h => ?_) | refine d_gF rfl (fun h => ?_) (fun h => ?_) | (refine l_req rfl ?_ ?_; · exact rq_) | (refine l_lk rfl ?_; refine ⟨_, lk_, ?_⟩) | refine l_look (l' := _ :: _) rfl rfl ?_ | refine l_look (l' := []) rfl rfl ?_ | refine l_req rfl ?_ ?_)
                exact tup_len List.length_append.symm _
          · have r4 : (y.t != x.t) = true := by simpa using hts
            have b3 : iOrd x y = false := by unfold iOrd; rw [if_pos h0]; simp [hts]
            rw [if_pos (.inr (.inr b3))] at hM
            subst hM
            refine agood eok (fn := Try.f6) kr_ de_ rfl kr_ ok_G7 ok_G7 ?_
            repeat' (first | refine o_cons ?_ | refine w_ok rfl ?_ | refine w_call rfl (c1) ?_ | refine w_call rfl (c2) ?_ | refine w_call rfl (c4) ?_ | refine o_nil ?_ | refine q_then ?_ | refine sq ?_ | refine aw_seq ?_ | refine aw_reg ?_ | refine w_pT rfl ka rfl ?_ | refine w_pF rfl ka rfl ?_ | refine o_y rfl ka ?_ | refine o_nT rfl ka ?_ | refine o_nF rfl ka ?_ | refine o_nU rfl ?_ | refine aw_cT rfl ka ?_ | refine aw_cF rfl ka ?_ | refine o_gT rfl (fun h => ?_) (fun h => ?_) | refine o_gF rfl (fun h => ?_) (fun h => ?_) | refine aw_cond rfl (fun h => ?_) (fun h => ?_) | refine aw_block ?_ | refine aw_skip ?_ | refine aw_ret ?_ | refine q_ret ?_ | refine q_blockN ?_ | refine q_blockR ?_ | refine aw_exit ?_ | refine q_exit ?_ | refine q_blockE ?_ | refine q_blockX de_ ?_ | refine fin_r rfl ?_ | (refine w_req rfl ?_ ?_; · exact rq_) | (refine w_lk rfl ?_; refine ⟨_, lk_, ?_⟩) | refine w_look (l' := _ :: _) rfl rfl ?_ | refine w_look (l' := []) rfl rfl ?_ | refine w_req rfl ?_ ?_ | refine w_pick rfl (fun b => ?_) | refine l_call rfl (c1) ?_ | refine l_call rfl (c2) ?_ | refine l_call rfl (c4) ?_ | refine aw_drw kr_ ?_ | refine d_cons ?_ | refine l_ok rfl ?_ | refine d_nil kr_ ?_ | refine d_y rfl ka ?_ | refine d_nT rfl ka ?_ | refine d_nF rfl ka ?_ | refine d_nU rfl ?_ | refine l_pT rfl ka rfl ?_ | refine l_pF rfl ka rfl ?_ | refine d_gT rfl (fun h => ?_) (fun h => ?_) | refine d_gF rfl (fun h => ?_) (fun h => ?_) | (refine l_req rfl ?_ ?_; · exact rq_) | (refine l_lk rfl ?_; refine ⟨_, lk_, ?_⟩) | refine l_look (l' := _ :: _) rfl rfl ?_ | refine l_look (l' := []) rfl rfl ?_ | refine l_req rfl ?_ ?_)
            rfl
        · have r3 : (y.k != 9) = true := by simpa using hk9
          have b3 : iOrd x y = false := by unfold iOrd; rw [if_pos h0]; simp [hk9]
          rw [if_pos (.inr (.inr b3))] at hM
          subst hM
          refine agood eok (fn := Try.f6) kr_ de_ rfl kr_ ok_G7 ok_G7 ?_
          repeat' (first | refine o_cons ?_ | refine w_ok rfl ?_ | refine w_call rfl (c1) ?_ | refine w_call rfl (c2) ?_ | refine w_call rfl (c4) ?_ | refine o_nil ?_ | refine q_then ?_ | refine sq ?_ | refine aw_seq ?_ | refine aw_reg ?_ | refine w_pT rfl ka rfl ?_ | refine w_pF rfl ka rfl ?_ | refine o_y rfl ka ?_ | refine o_nT rfl ka ?_ | refine o_nF rfl ka ?_ | refine o_nU rfl ?_ | refine aw_cT rfl ka ?_ | refine aw_cF rfl ka ?_ | refine o_gT rfl (fun h => ?_) (fun h => ?_) | refine o_gF rfl (fun h => ?_) (fun h => ?_) | refine aw_cond rfl (fun h => ?_) (fun h => ?_) | refine aw_block ?_ | refine aw_skip ?_ | refine aw_ret ?_ | refine q_ret ?_ | refine q_blockN ?_ | refine q_blockR ?_ | refine aw_exit ?_ | refine q_exit ?_ | refine q_blockE ?_ | refine q_blockX de_ ?_ | refine fin_r rfl ?_ | (refine w_req rfl ?_ ?_; · exact rq_) | (refine w_lk rfl ?_; refine ⟨_, lk_, ?_⟩) | refine w_look (l' := _ :: _) rfl rfl ?_ | refine w_look (l' := []) rfl rfl ?_ | refine w_req rfl ?_ ?_ | refine w_pick rfl (fun b => ?_) | refine l_call rfl (c1) ?_ | refine l_call rfl (c2) ?_ | refine l_call rfl (c4) ?_ | refine aw_drw kr_ ?_ | refine d_cons ?_ | refine l_ok rfl ?_ | refine d_nil kr_ ?_ | refine d_y rfl ka ?_ | refine d_nT rfl ka ?_ | refine d_nF rfl ka ?_ | refine d_nU rfl ?_ | refine l_pT rfl ka rfl ?_ | refine l_pF rfl ka rfl ?_ | refine d_gT rfl (fun h => ?_) (fun h => ?_) | refine d_gF rfl (fun h => ?_) (fun h => ?_) | (refine l_req rfl ?_ ?_; · exact rq_) | (refine l_lk rfl ?_; refine ⟨_, lk_, ?_⟩) | refine l_look (l' := _ :: _) rfl rfl ?_ | refine l_look (l' := []) rfl rfl ?_ | refine l_req rfl ?_ ?_)
          rfl
    · have k2 : (fCode y != 0) = true := by simpa using b2
      rw [if_pos (.inr (.inl b2))] at hM
      subst hM
      refine agood eok (fn := Try.f6) kr_ de_ rfl kr_ ok_G7 ok_G7 ?_
      repeat' (first | refine o_cons ?_ | refine w_ok rfl ?_ | refine w_call rfl (c1) ?_ | refine w_call rfl (c2) ?_ | refine w_call rfl (c4) ?_ | refine o_nil ?_ | refine q_then ?_ | refine sq ?_ | refine aw_seq ?_ | refine aw_reg ?_ | refine w_pT rfl ka rfl ?_ | refine w_pF rfl ka rfl ?_ | refine o_y rfl ka ?_ | refine o_nT rfl ka ?_ | refine o_nF rfl ka ?_ | refine o_nU rfl ?_ | refine aw_cT rfl ka ?_ | refine aw_cF rfl ka ?_ | refine o_gT rfl (fun h => ?_) (fun h => ?_) | refine o_gF rfl (fun h => ?_) (fun h => ?_) | refine aw_cond rfl (fun h => ?_) (fun h => ?_) | refine aw_block ?_ | refine aw_skip ?_ | refine aw_ret ?_ | refine q_ret ?_ | refine q_blockN ?_ | refine q_blockR ?_ | refine aw_exit ?_ | refine q_exit ?_ | refine q_blockE ?_ | refine q_blockX de_ ?_ | refine fin_r rfl ?_ | (refine w_req rfl ?_ ?_; · exact rq_) | (refine w_lk rfl ?_; refine ⟨_, lk_, ?_⟩) | refine w_look (l' := _ :: _) rfl rfl ?_ | refine w_look (l' := []) rfl rfl ?_ | refine w_req rfl ?_ ?_ | refine w_pick rfl (fun b => ?_) | refine l_call rfl (c1) ?_ | refine l_call rfl (c2) ?_ | refine l_call rfl (c4) ?_ | refine aw_drw kr_ ?_ | refine d_cons ?_ | refine l_ok rfl ?_ | refine d_nil kr_ ?_ | refine d_y rfl ka ?_ | refine d_nT rfl ka ?_ | refine d_nF rfl ka ?_ | refine d_nU rfl ?_ | refine l_pT rfl ka rfl ?_ | refine l_pF rfl ka rfl ?_ | refine d_gT rfl (fun h => ?_) (fun h => ?_) | refine d_gF rfl (fun h => ?_) (fun h => ?_) | (refine l_req rfl ?_ ?_; · exact rq_) | (refine l_lk rfl ?_; refine ⟨_, lk_, ?_⟩) | refine l_look (l' := _ :: _) rfl rfl ?_ | refine l_look (l' := []) rfl rfl ?_ | refine l_req rfl ?_ ?_)
      rfl
end Go.Proofs.Ytmckbfmadgfddaa
