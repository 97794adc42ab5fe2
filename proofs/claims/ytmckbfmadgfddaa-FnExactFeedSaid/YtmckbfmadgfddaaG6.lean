import Derived.Test.YtmckbfmadgfddaaG3
namespace Go.Proofs.Ytmckbfmadgfddaa
open Go Go.AM Ty
set_option maxRecDepth 100000
set_option maxHeartbeats 4000000
set_option linter.unusedVariables false
set_option linter.unusedSimpArgs false
attribute [local irreducible] aw aops aopsD wpo wpoL condW guardW thenQ blockQ finQ Le AGood
theorem lk_G6 {p : Prop} (h : p := by first | exact bT_app _ _ | exact e1 | exact e2 | exact lk_) : p := h
theorem ok_G6 {p : Prop} (h : p := by first | exact unpT_ok _ | exact ok_) : p := h
theorem unpadS (x : Fm) {c : Nat} (hc : c = x.d.length) (hl : x.d.length ≤ 1048576) : AGood e.P 22 [x.pa c] (unpT (unpM x)) [kp4] := by
  subst hc
  have hb := (x.d.getD 0 0).toNat_lt
  cases h8 : (andI x.g 8 != 0) with
  | false =>
    have p1 := h8
    unfold andI at p1
    by_cases hk : x.k = 1
    · have q1 : (x.k == 1) = true := by simpa using hk
      cases hp : (andI x.g 32 != 0) with
      | true =>
        have p2 := hp
        unfold andI at p2
        have hB : x.d.length = x.d.length := by rfl
        have hah : aheadM x = 5 := by unfold aheadM; rw [if_pos ⟨hk, hp⟩]
        have hu : unpM x = unp2 x x.d (0) := by unfold unpM; rw [if_neg (by rw [h8]; exact Bool.false_ne_true)]
        rw [hu]
        unfold unp2
        rw [hah]
        by_cases hq : 5 + 0 > x.d.length
        · have k5 : decide ((x.d.length : Int) < 5) = true := decide_eq_true (by omega)
          rw [if_pos hq]
          clear hB hah hu
          refine agood eok (fn := Try.f22) kr_ de_ rfl kr_ ok_G6 ok_G6 ?_
          repeat' (first | refine o_cons ?_ | refine w_ok rfl ?_ | refine o_nil ?_ | refine q_then ?_ | refine sq ?_ | refine aw_seq ?_ | refine aw_reg ?_ | refine w_pT rfl ka rfl ?_ | refine w_pF rfl ka rfl ?_ | refine o_y rfl ka ?_ | refine o_nT rfl ka ?_ | refine o_nF rfl ka ?_ | refine o_nU rfl ?_ | refine aw_cT rfl ka ?_ | refine aw_cF rfl ka ?_ | refine o_gT rfl (fun h => ?_) (fun h => ?_) | refine o_gF rfl (fun h => ?_) (fun h => ?_) | refine aw_cond rfl (fun h => ?_) (fun h => ?_) | refine aw_block ?_ | refine aw_skip ?_ | refine aw_ret ?_ | refine q_ret ?_ | refine q_blockN ?_ | refine q_blockR ?_ | refine aw_exit ?_ | refine q_exit ?_ | refine q_blockE ?_ | refine q_blockX de_ ?_ | refine fin_r rfl ?_ | (refine w_req rfl ?_ ?_; · exact rq_) | (refine w_lk rfl ?_; refine ⟨_, lk_G6, ?_⟩) | refine w_look (l' := _ :: _) rfl rfl ?_ | refine w_look (l' := []) rfl rfl ?_ | refine w_req rfl ?_ ?_ | refine w_pick rfl (fun b => ?_) | refine aw_drw kr_ ?_ | refine d_cons ?_ | refine l_ok rfl ?_ | refine d_nil kr_ ?_ | refine d_y rfl ka ?_ | refine d_nT rfl ka ?_ | refine d_nF rfl ka ?_ | refine d_nU rfl ?_ | refine l_pT rfl ka rfl ?_ | refine l_pF rfl ka rfl ?_ | refine d_gT rfl (fun h => ?_) (fun h => ?_) | refine d_gF rfl (fun h => ?_) (fun h => ?_) | (refine l_req rfl ?_ ?_; · exact rq_) | (refine l_lk rfl ?_; refine ⟨_, lk_G6, ?_⟩) | refine l_look (l' := _ :: _) rfl rfl ?_ | refine l_look (l' := []) rfl rfl ?_ | refine l_req rfl ?_ ?_)
          rfl
        · have k5 : decide ((x.d.length : Int) < 5) = false := decide_eq_false (by omega)
          rw [if_neg hq]
          have e2 : ((bT x.d).drop ((5 : Int).toNat * 1)).take (((x.d.length : Int).toNat - (5 : Int).toNat) * 1) = bT (x.d.drop 5) := by
            rw [bT_cut, List.take_of_length_le (by rw [List.length_drop, hB, Int.toNat_natCast]; exact Nat.le_refl _)]
            rfl
          have g2 : 0 ≤ (5 : Int) ∧ (5 : Int) ≤ (x.d.length : Int) ∧ (x.d.length : Int) ≤ (x.d.length : Int) := by omega
          have q9 : (0 + ((x.d.length : Int).toNat - (5 : Int).toNat)) * 1 ≤ 140737488355328 ∧ 0 + ((x.d.length : Int).toNat - (5 : Int).toNat) ≤ 140737488355328 := by omega
          have hR : x.d.drop 5 = (x.d.drop 5).take (x.d.length - 0 - 5) := by rw [List.take_of_length_le (by rw [List.length_drop]; omega)]
          rw [← hR]
          have hL : 0 + ((x.d.length : Int).toNat - (5 : Int).toNat) = (x.d.drop 5).length := by rw [List.length_drop, hB, Int.toNat_natCast]; show 0 + (_ - 5) = _; omega
          clear hB hah hu hR
          refine agood eok (fn := Try.f22) kr_ de_ rfl kr_ ok_G6 ok_G6 ?_
          repeat' (first | refine o_cons ?_ | refine w_ok rfl ?_ | refine o_nil ?_ | refine q_then ?_ | refine sq ?_ | refine aw_seq ?_ | refine aw_reg ?_ | refine w_pT rfl ka rfl ?_ | refine w_pF rfl ka rfl ?_ | refine o_y rfl ka ?_ | refine o_nT rfl ka ?_ | refine o_nF rfl ka ?_ | refine o_nU rfl ?_ | refine aw_cT rfl ka ?_ | refine aw_cF rfl ka ?_ | refine o_gT rfl (fun h => ?_) (fun h => ?_) | refine o_gF rfl (fun h => ?_) (fun h => ?_) | refine aw_cond rfl (fun h => ?_) (fun h => ?_) | refine aw_block ?_ | refine aw_skip ?_ | refine aw_ret ?_ | refine q_ret ?_ | refine q_blockN ?_ | refine q_blockR ?_ | refine aw_exit ?_ | refine q_exit ?_ | refine q_blockE ?_ | refine q_blockX de_ ?_ | refine fin_r rfl ?_ | (refine w_req rfl ?_ ?_; · exact rq_) | (refine w_lk rfl ?_; refine ⟨_, lk_G6, ?_⟩) | refine w_look (l' := _ :: _) rfl rfl ?_ | refine w_look (l' := []) rfl rfl ?_ | refine w_req rfl ?_ ?_ | refine w_pick rfl (fun b => ?_) | refine aw_drw kr_ ?_ | refine d_cons ?_ | refine l_ok rfl ?_ | refine d_nil kr_ ?_ | refine d_y rfl ka ?_ | refine d_nT rfl ka ?_ | refine d_nF rfl ka ?_ | refine d_nU rfl ?_ | refine l_pT rfl ka rfl ?_ | refine l_pF rfl ka rfl ?_ | refine d_gT rfl (fun h => ?_) (fun h => ?_) | refine d_gF rfl (fun h => ?_) (fun h => ?_) | (refine l_req rfl ?_ ?_; · exact rq_) | (refine l_lk rfl ?_; refine ⟨_, lk_G6, ?_⟩) | refine l_look (l' := _ :: _) rfl rfl ?_ | refine l_look (l' := []) rfl rfl ?_ | refine l_req rfl ?_ ?_)
          rw [hL]
          rfl
      | false =>
        have p2 := hp
        unfold andI at p2
        have hkp : ¬ (x.k = 1 ∧ (andI x.g 32 != 0) = true) := fun h => by rw [hp] at h; exact Bool.noConfusion h.2
        have hB : x.d.length = x.d.length := by rfl
        have hah : aheadM x = 0 := by unfold aheadM; rw [if_neg hkp]
        have hu : unpM x = unp2 x x.d (0) := by unfold unpM; rw [if_neg (by rw [h8]; exact Bool.false_ne_true)]
        rw [hu]
        unfold unp2
        rw [hah]
        have hq : ¬ 0 + 0 > x.d.length := by omega
        rw [if_neg hq]
        have hR : x.d = (x.d.drop 0).take (x.d.length - 0 - 0) := by rw [List.drop_zero, List.take_of_length_le (by omega)]
        rw [← hR]
        have q9 : (0 + x.d.length) * 1 ≤ 140737488355328 ∧ 0 + x.d.length ≤ 140737488355328 := by omega
        have hL : 0 + x.d.length = x.d.length := by rw [hB]; omega
        clear hB hah hu hR hq
        refine agood eok (fn := Try.f22) kr_ de_ rfl kr_ ok_G6 ok_G6 ?_
        repeat' (first | refine o_cons ?_ | refine w_ok rfl ?_ | refine o_nil ?_ | refine q_then ?_ | refine sq ?_ | refine aw_seq ?_ | refine aw_reg ?_ | refine w_pT rfl ka rfl ?_ | refine w_pF rfl ka rfl ?_ | refine o_y rfl ka ?_ | refine o_nT rfl ka ?_ | refine o_nF rfl ka ?_ | refine o_nU rfl ?_ | refine aw_cT rfl ka ?_ | refine aw_cF rfl ka ?_ | refine o_gT rfl (fun h => ?_) (fun h => ?_) | refine o_gF rfl (fun h => ?_) (fun h => ?_) | refine aw_cond rfl (fun h => ?_) (fun h => ?_) | refine aw_block ?_ | refine aw_skip ?_ | refine aw_ret ?_ | refine q_ret ?_ | refine q_blockN ?_ | refine q_blockR ?_ | refine aw_exit ?_ | refine q_exit ?_ | refine q_blockE ?_ | refine q_blockX de_ ?_ | refine fin_r rfl ?_ | (refine w_req rfl ?_ ?_; · exact rq_) | (refine w_lk rfl ?_; refine ⟨_, lk_G6, ?_⟩) | refine w_look (l' := _ :: _) rfl rfl ?_ | refine w_look (l' := []) rfl rfl ?_ | refine w_req rfl ?_ ?_ | refine w_pick rfl (fun b => ?_) | refine aw_drw kr_ ?_ | refine d_cons ?_ | refine l_ok rfl ?_ | refine d_nil kr_ ?_ | refine d_y rfl ka ?_ | refine d_nT rfl ka ?_ | refine d_nF rfl ka ?_ | refine d_nU rfl ?_ | refine l_pT rfl ka rfl ?_ | refine l_pF rfl ka rfl ?_ | refine d_gT rfl (fun h => ?_) (fun h => ?_) | refine d_gF rfl (fun h => ?_) (fun h => ?_) | (refine l_req rfl ?_ ?_; · exact rq_) | (refine l_lk rfl ?_; refine ⟨_, lk_G6, ?_⟩) | refine l_look (l' := _ :: _) rfl rfl ?_ | refine l_look (l' := []) rfl rfl ?_ | refine l_req rfl ?_ ?_)
        rw [hL]
        rfl
    · have q1 : (x.k == 1) = false := by simpa using hk
      have hkp : ¬ (x.k = 1 ∧ (andI x.g 32 != 0) = true) := fun h => hk h.1
      have hB : x.d.length = x.d.length := by rfl
      have hah : aheadM x = 0 := by unfold aheadM; rw [if_neg hkp]
      have hu : unpM x = unp2 x x.d (0) := by unfold unpM; rw [if_neg (by rw [h8]; exact Bool.false_ne_true)]
      rw [hu]
      unfold unp2
      rw [hah]
      have hq : ¬ 0 + 0 > x.d.length := by omega
      rw [if_neg hq]
      have hR : x.d = (x.d.drop 0).take (x.d.length - 0 - 0) := by rw [List.drop_zero, List.take_of_length_le (by omega)]
      rw [← hR]
      have q9 : (0 + x.d.length) * 1 ≤ 140737488355328 ∧ 0 + x.d.length ≤ 140737488355328 := by omega
      have hL : 0 + x.d.length = x.d.length := by rw [hB]; omega
      clear hB hah hu hR hq
      refine agood eok (fn := Try.f22) kr_ de_ rfl kr_ ok_G6 ok_G6 ?_
      repeat' (first | refine o_cons ?_ | refine w_ok rfl ?_ | refine o_nil ?_ | refine q_then ?_ | refine sq ?_ | refine aw_seq ?_ | refine aw_reg ?_ | refine w_pT rfl ka rfl ?_ | refine w_pF rfl ka rfl ?_ | refine o_y rfl ka ?_ | refine o_nT rfl ka ?_ | refine o_nF rfl ka ?_ | refine o_nU rfl ?_ | refine aw_cT rfl ka ?_ | refine aw_cF rfl ka ?_ | refine o_gT rfl (fun h => ?_) (fun h => ?_) | refine o_gF rfl (fun h => ?_) (fun h => ?_) | refine aw_cond rfl (fun h => ?_) (fun h => ?_) | refine aw_block ?_ | refine aw_skip ?_ | refine aw_ret ?_ | refine q_ret ?_ | refine q_blockN ?_ | refine q_blockR ?_ | refine aw_exit ?_ | refine q_exit ?_ | refine q_blockE ?_ | refine q_blockX de_ ?_ | refine fin_r rfl ?_ | (refine w_req rfl ?_ ?_; · exact rq_) | (refine w_lk rfl ?_; refine ⟨_, lk_G6, ?_⟩) | refine w_look (l' := _ :: _) rfl rfl ?_ | refine w_look (l' := []) rfl rfl ?_ | refine w_req rfl ?_ ?_ | refine w_pick rfl (fun b => ?_) | refine aw_drw kr_ ?_ | refine d_cons ?_ | refine l_ok rfl ?_ | refine d_nil kr_ ?_ | refine d_y rfl ka ?_ | refine d_nT rfl ka ?_ | refine d_nF rfl ka ?_ | refine d_nU rfl ?_ | refine l_pT rfl ka rfl ?_ | refine l_pF rfl ka rfl ?_ | refine d_gT rfl (fun h => ?_) (fun h => ?_) | refine d_gF rfl (fun h => ?_) (fun h => ?_) | (refine l_req rfl ?_ ?_; · exact rq_) | (refine l_lk rfl ?_; refine ⟨_, lk_G6, ?_⟩) | refine l_look (l' := _ :: _) rfl rfl ?_ | refine l_look (l' := []) rfl rfl ?_ | refine l_req rfl ?_ ?_)
      rw [hL]
      rfl
  | true =>
    have p1 := h8
    unfold andI at p1
    by_cases h0 : x.d.length = 0
    · have q0 : ((x.d.length : Int) == 0) = true := by rw [h0]; rfl
      have hu : unpM x = none := by unfold unpM; rw [if_pos h8, if_pos h0]
      rw [hu]
      refine agood eok (fn := Try.f22) kr_ de_ rfl kr_ ok_G6 ok_G6 ?_
      repeat' (first | refine o_cons ?_ | refine w_ok rfl ?_ | refine o_nil ?_ | refine q_then ?_ | refine sq ?_ | refine aw_seq ?_ | refine aw_reg ?_ | refine w_pT rfl ka rfl ?_ | refine w_pF rfl ka rfl ?_ | refine o_y rfl ka ?_ | refine o_nT rfl ka ?_ | refine o_nF rfl ka ?_ | refine o_nU rfl ?_ | refine aw_cT rfl ka ?_ | refine aw_cF rfl ka ?_ | refine o_gT rfl (fun h => ?_) (fun h => ?_) | refine o_gF rfl (fun h => ?_) (fun h => ?_) | refine aw_cond rfl (fun h => ?_) (fun h => ?_) | refine aw_block ?_ | refine aw_skip ?_ | refine aw_ret ?_ | refine q_ret ?_ | refine q_blockN ?_ | refine q_blockR ?_ | refine aw_exit ?_ | refine q_exit ?_ | refine q_blockE ?_ | refine q_blockX de_ ?_ | refine fin_r rfl ?_ | (refine w_req rfl ?_ ?_; · exact rq_) | (refine w_lk rfl ?_; refine ⟨_, lk_G6, ?_⟩) | refine w_look (l' := _ :: _) rfl rfl ?_ | refine w_look (l' := []) rfl rfl ?_ | refine w_req rfl ?_ ?_ | refine w_pick rfl (fun b => ?_) | refine aw_drw kr_ ?_ | refine d_cons ?_ | refine l_ok rfl ?_ | refine d_nil kr_ ?_ | refine d_y rfl ka ?_ | refine d_nT rfl ka ?_ | refine d_nF rfl ka ?_ | refine d_nU rfl ?_ | refine l_pT rfl ka rfl ?_ | refine l_pF rfl ka rfl ?_ | refine d_gT rfl (fun h => ?_) (fun h => ?_) | refine d_gF rfl (fun h => ?_) (fun h => ?_) | (refine l_req rfl ?_ ?_; · exact rq_) | (refine l_lk rfl ?_; refine ⟨_, lk_G6, ?_⟩) | refine l_look (l' := _ :: _) rfl rfl ?_ | refine l_look (l' := []) rfl rfl ?_ | refine l_req rfl ?_ ?_)
      rfl
    · have q0 : ((x.d.length : Int) == 0) = false := by rw [beq_eq_false_iff_ne]; omega
      have g0 : 0 ≤ (0 : Int) ∧ (0 : Int) < (x.d.length : Int) := by omega
      have wM : IntKind.i64.wrap ((x.d.getD (0 : Int).toNat 0).toNat : Int) = (((x.d.getD 0 0).toNat : Nat) : Int) := by rw [Int.toNat_zero, wrap64 (by omega) (by omega)]
      have wL : IntKind.i64.wrap ((x.d.length : Int) - 1) = ((x.d.length - 1 : Nat) : Int) := by rw [wrap64 (by omega) (by omega)]; omega
      by_cases hm : (x.d.getD 0 0).toNat > x.d.length - 1
      · have k1 : decide (IntKind.i64.wrap ((x.d.getD (0 : Int).toNat 0).toNat : Int) > IntKind.i64.wrap ((x.d.length : Int) - 1)) = true := by rw [wM, wL]; exact decide_eq_true (by omega)
        have hu : unpM x = none := by
          unfold unpM unp2
          rw [if_pos h8, if_neg h0, if_pos (by rw [List.length_drop]; omega)]
        rw [hu]
        clear wM wL hu
        refine agood eok (fn := Try.f22) kr_ de_ rfl kr_ ok_G6 ok_G6 ?_
        repeat' (first | refine o_cons ?_ | refine w_ok rfl ?_ | refine o_nil ?_ | refine q_then ?_ | refine sq ?_ | refine aw_seq ?_ | refine aw_reg ?_ | refine w_pT rfl ka rfl ?_ | refine w_pF rfl ka rfl ?_ | refine o_y rfl ka ?_ | refine o_nT rfl ka ?_ | refine o_nF rfl ka ?_ | refine o_nU rfl ?_ | refine aw_cT rfl ka ?_ | refine aw_cF rfl ka ?_ | refine o_gT rfl (fun h => ?_) (fun h => ?_) | refine o_gF rfl (fun h => ?_) (fun h => ?_) | refine aw_cond rfl (fun h => ?_) (fun h => ?_) | refine aw_block ?_ | refine aw_skip ?_ | refine aw_ret ?_ | refine q_ret ?_ | refine q_blockN ?_ | refine q_blockR ?_ | refine aw_exit ?_ | refine q_exit ?_ | refine q_blockE ?_ | refine q_blockX de_ ?_ | refine fin_r rfl ?_ | (refine w_req rfl ?_ ?_; · exact rq_) | (refine w_lk rfl ?_; refine ⟨_, lk_G6, ?_⟩) | refine w_look (l' := _ :: _) rfl rfl ?_ | refine w_look (l' := []) rfl rfl ?_ | refine w_req rfl ?_ ?_ | refine w_pick rfl (fun b => ?_) | refine aw_drw kr_ ?_ | refine d_cons ?_ | refine l_ok rfl ?_ | refine d_nil kr_ ?_ | refine d_y rfl ka ?_ | refine d_nT rfl ka ?_ | refine d_nF rfl ka ?_ | refine d_nU rfl ?_ | refine l_pT rfl ka rfl ?_ | refine l_pF rfl ka rfl ?_ | refine d_gT rfl (fun h => ?_) (fun h => ?_) | refine d_gF rfl (fun h => ?_) (fun h => ?_) | (refine l_req rfl ?_ ?_; · exact rq_) | (refine l_lk rfl ?_; refine ⟨_, lk_G6, ?_⟩) | refine l_look (l' := _ :: _) rfl rfl ?_ | refine l_look (l' := []) rfl rfl ?_ | refine l_req rfl ?_ ?_)
        rfl
      · have k1 : decide (IntKind.i64.wrap ((x.d.getD (0 : Int).toNat 0).toNat : Int) > IntKind.i64.wrap ((x.d.length : Int) - 1)) = false := by rw [wM, wL]; exact decide_eq_false (by omega)
        have wH : IntKind.i64.wrap ((x.d.length : Int) - IntKind.i64.wrap ((x.d.getD (0 : Int).toNat 0).toNat : Int)) = ((x.d.length - (x.d.getD 0 0).toNat : Nat) : Int) := by rw [wM, wrap64 (by omega) (by omega)]; omega
        have g1 : 0 ≤ (1 : Int) ∧ (1 : Int) ≤ IntKind.i64.wrap ((x.d.length : Int) - IntKind.i64.wrap ((x.d.getD (0 : Int).toNat 0).toNat : Int)) ∧ IntKind.i64.wrap ((x.d.length : Int) - IntKind.i64.wrap ((x.d.getD (0 : Int).toNat 0).toNat : Int)) ≤ (x.d.length : Int) := by rw [wH]; omega
        have e1 : ((bT x.d).drop ((1 : Int).toNat * 1)).take (((IntKind.i64.wrap ((x.d.length : Int) - IntKind.i64.wrap ((x.d.getD (0 : Int).toNat 0).toNat : Int))).toNat - (1 : Int).toNat) * 1) = bT ((x.d.drop 1).take (x.d.length - (x.d.getD 0 0).toNat - 1)) := by
          rw [bT_cut, wH]
          rfl
        by_cases hk : x.k = 1
        · have q1 : (x.k == 1) = true := by simpa using hk
          cases hp : (andI x.g 32 != 0) with
          | true =>
            have p2 := hp
            unfold andI at p2
            have hB : ((x.d.drop 1).take (x.d.length - (x.d.getD 0 0).toNat - 1)).length = x.d.length - (x.d.getD 0 0).toNat - 1 := by simp only [List.length_take, List.length_drop]; omega
            have hn : ((IntKind.i64.wrap ((x.d.length : Int) - IntKind.i64.wrap ((x.d.getD (0 : Int).toNat 0).toNat : Int))).toNat - (1 : Int).toNat) = x.d.length - (x.d.getD 0 0).toNat - 1 := by rw [wH]; show _ - 1 = _; omega
            have hah : aheadM x = 5 := by unfold aheadM; rw [if_pos ⟨hk, hp⟩]
            have hu : unpM x = unp2 x (x.d.drop 1) ((x.d.getD 0 0).toNat) := by unfold unpM; rw [if_pos h8, if_neg h0]
            rw [hu]
            unfold unp2
            rw [hah]
            by_cases hq : 5 + (x.d.getD 0 0).toNat > (x.d.drop 1).length
            · have k5 : decide (((((IntKind.i64.wrap ((x.d.length : Int) - IntKind.i64.wrap ((x.d.getD (0 : Int).toNat 0).toNat : Int))).toNat - (1 : Int).toNat) : Nat) : Int) < 5) = true := decide_eq_true (by rw [hn]; rw [List.length_drop] at hq; omega)
              rw [if_pos hq]
              clear hB hah hu
              refine agood eok (fn := Try.f22) kr_ de_ rfl kr_ ok_G6 ok_G6 ?_
              repeat' (first | refine o_cons ?_ | refine w_ok rfl ?_ | refine o_nil ?_ | refine q_then ?_ | refine sq ?_ | refine aw_seq ?_ | refine aw_reg ?_ | refine w_pT rfl ka rfl ?_ | refine w_pF rfl ka rfl ?_ | refine o_y rfl ka ?_ | refine o_nT rfl ka ?_ | refine o_nF rfl ka ?_ | refine o_nU rfl ?_ | refine aw_cT rfl ka ?_ | refine aw_cF rfl ka ?_ | refine o_gT rfl (fun h => ?_) (fun h => ?_) | refine o_gF rfl (fun h => ?_) (fun h => ?_) | refine aw_cond rfl (fun h => ?_) (fun h => ?_) | refine aw_block ?_ | refine aw_skip ?_ | refine aw_ret ?_ | refine q_ret ?_ | refine q_blockN ?_ | refine q_blockR ?_ | refine aw_exit ?_ | refine q_exit ?_ | refine q_blockE ?_ | refine q_blockX de_ ?_ | refine fin_r rfl ?_ | (refine w_req rfl ?_ ?_; · exact rq_) | (refine w_lk rfl ?_; refine ⟨_, lk_G6, ?_⟩) | refine w_look (l' := _ :: _) rfl rfl ?_ | refine w_look (l' := []) rfl rfl ?_ | refine w_req rfl ?_ ?_ | refine w_pick rfl (fun b => ?_) | refine aw_drw kr_ ?_ | refine d_cons ?_ | refine l_ok rfl ?_ | refine d_nil kr_ ?_ | refine d_y rfl ka ?_ | refine d_nT rfl ka ?_ | refine d_nF rfl ka ?_ | refine d_nU rfl ?_ | refine l_pT rfl ka rfl ?_ | refine l_pF rfl ka rfl ?_ | refine d_gT rfl (fun h => ?_) (fun h => ?_) | refine d_gF rfl (fun h => ?_) (fun h => ?_) | (refine l_req rfl ?_ ?_; · exact rq_) | (refine l_lk rfl ?_; refine ⟨_, lk_G6, ?_⟩) | refine l_look (l' := _ :: _) rfl rfl ?_ | refine l_look (l' := []) rfl rfl ?_ | refine l_req rfl ?_ ?_)
              rfl
            · have k5 : decide (((((IntKind.i64.wrap ((x.d.length : Int) - IntKind.i64.wrap ((x.d.getD (0 : Int).toNat 0).toNat : Int))).toNat - (1 : Int).toNat) : Nat) : Int) < 5) = false := decide_eq_false (by rw [hn]; rw [List.length_drop] at hq; omega)
              rw [if_neg hq]
              have e2 : ((bT ((x.d.drop 1).take (x.d.length - (x.d.getD 0 0).toNat - 1))).drop ((5 : Int).toNat * 1)).take ((((((IntKind.i64.wrap ((x.d.length : Int) - IntKind.i64.wrap ((x.d.getD (0 : Int).toNat 0).toNat : Int))).toNat - (1 : Int).toNat) : Nat) : Int).toNat - (5 : Int).toNat) * 1) = bT (((x.d.drop 1).take (x.d.length - (x.d.getD 0 0).toNat - 1)).drop 5) := by
                rw [bT_cut, List.take_of_length_le (by rw [List.length_drop, hB, hn, Int.toNat_natCast]; exact Nat.le_refl _)]
                rfl
              have g2 : 0 ≤ (5 : Int) ∧ (5 : Int) ≤ ((((IntKind.i64.wrap ((x.d.length : Int) - IntKind.i64.wrap ((x.d.getD (0 : Int).toNat 0).toNat : Int))).toNat - (1 : Int).toNat) : Nat) : Int) ∧ ((((IntKind.i64.wrap ((x.d.length : Int) - IntKind.i64.wrap ((x.d.getD (0 : Int).toNat 0).toNat : Int))).toNat - (1 : Int).toNat) : Nat) : Int) ≤ ((((IntKind.i64.wrap ((x.d.length : Int) - IntKind.i64.wrap ((x.d.getD (0 : Int).toNat 0).toNat : Int))).toNat - (1 : Int).toNat) : Nat) : Int) := by rw [hn]; rw [List.length_drop] at hq; omega
              have q9 : (0 + (((((IntKind.i64.wrap ((x.d.length : Int) - IntKind.i64.wrap ((x.d.getD (0 : Int).toNat 0).toNat : Int))).toNat - (1 : Int).toNat) : Nat) : Int).toNat - (5 : Int).toNat)) * 1 ≤ 140737488355328 ∧ 0 + (((((IntKind.i64.wrap ((x.d.length : Int) - IntKind.i64.wrap ((x.d.getD (0 : Int).toNat 0).toNat : Int))).toNat - (1 : Int).toNat) : Nat) : Int).toNat - (5 : Int).toNat) ≤ 140737488355328 := by rw [hn]; omega
              have hR : ((x.d.drop 1).take (x.d.length - (x.d.getD 0 0).toNat - 1)).drop 5 = ((x.d.drop 1).drop 5).take ((x.d.drop 1).length - (x.d.getD 0 0).toNat - 5) := by rw [List.drop_take, List.length_drop]; congr 1; omega
              rw [← hR]
              have hL : 0 + (((((IntKind.i64.wrap ((x.d.length : Int) - IntKind.i64.wrap ((x.d.getD (0 : Int).toNat 0).toNat : Int))).toNat - (1 : Int).toNat) : Nat) : Int).toNat - (5 : Int).toNat) = (((x.d.drop 1).take (x.d.length - (x.d.getD 0 0).toNat - 1)).drop 5).length := by rw [List.length_drop, hB, hn, Int.toNat_natCast]; show 0 + (_ - 5) = _; omega
              clear hB hah hu hR
              refine agood eok (fn := Try.f22) kr_ de_ rfl kr_ ok_G6 ok_G6 ?_
              repeat' (first | refine o_cons ?_ | refine w_ok rfl ?_ | refine o_nil ?_ | refine q_then ?_ | refine sq ?_ | refine aw_seq ?_ | refine aw_reg ?_ | refine w_pT rfl ka rfl ?_ | refine w_pF rfl ka rfl ?_ | refine o_y rfl ka ?_ | refine o_nT rfl ka ?_ | refine o_nF rfl ka ?_ | refine o_nU rfl ?_ | refine aw_cT rfl ka ?_ | refine aw_cF rfl ka ?_ | refine o_gT rfl (fun h => ?_) (fun h => ?_) | refine o_gF rfl (fun h => ?_) (fun h => ?_) | refine aw_cond rfl (fun h => ?_) (fun h => ?_) | refine aw_block ?_ | refine aw_skip ?_ | refine aw_ret ?_ | refine q_ret ?_ | refine q_blockN ?_ | refine q_blockR ?_ | refine aw_exit ?_ | refine q_exit ?_ | refine q_blockE ?_ | refine q_blockX de_ ?_ | refine fin_r rfl ?_ | (refine w_req rfl ?_ ?_; · exact rq_) | (refine w_lk rfl ?_; refine ⟨_, lk_G6, ?_⟩) | refine w_look (l' := _ :: _) rfl rfl ?_ | refine w_look (l' := []) rfl rfl ?_ | refine w_req rfl ?_ ?_ | refine w_pick rfl (fun b => ?_) | refine aw_drw kr_ ?_ | refine d_cons ?_ | refine l_ok rfl ?_ | refine d_nil kr_ ?_ | refine d_y rfl ka ?_ | refine d_nT rfl ka ?_ | refine d_nF rfl ka ?_ | refine d_nU rfl ?_ | refine l_pT rfl ka rfl ?_ | refine l_pF rfl ka rfl ?_ | refine d_gT rfl (fun h => ?_) (fun h => ?_) | refine d_gF rfl (fun h => ?_) (fun h => ?_) | (refine l_req rfl ?_ ?_; · exact rq_) | (refine l_lk rfl ?_; refine ⟨_, lk_G6, ?_⟩) | refine l_look (l' := _ :: _) rfl rfl ?_ | refine l_look (l' := []) rfl rfl ?_ | refine l_req rfl ?_ ?_)
              rw [hL]
              rfl
          | false =>
            have p2 := hp
            unfold andI at p2
            have hkp : ¬ (x.k = 1 ∧ (andI x.g 32 != 0) = true) := fun h => by rw [hp] at h; exact Bool.noConfusion h.2
            have hB : ((x.d.drop 1).take (x.d.length - (x.d.getD 0 0).toNat - 1)).length = x.d.length - (x.d.getD 0 0).toNat - 1 := by simp only [List.length_take, List.length_drop]; omega
            have hn : ((IntKind.i64.wrap ((x.d.length : Int) - IntKind.i64.wrap ((x.d.getD (0 : Int).toNat 0).toNat : Int))).toNat - (1 : Int).toNat) = x.d.length - (x.d.getD 0 0).toNat - 1 := by rw [wH]; show _ - 1 = _; omega
            have hah : aheadM x = 0 := by unfold aheadM; rw [if_neg hkp]
            have hu : unpM x = unp2 x (x.d.drop 1) ((x.d.getD 0 0).toNat) := by unfold unpM; rw [if_pos h8, if_neg h0]
            rw [hu]
            unfold unp2
            rw [hah]
            have hq : ¬ 0 + (x.d.getD 0 0).toNat > (x.d.drop 1).length := by rw [List.length_drop]; omega
            rw [if_neg hq]
            have hR : ((x.d.drop 1).take (x.d.length - (x.d.getD 0 0).toNat - 1)) = ((x.d.drop 1).drop 0).take ((x.d.drop 1).length - (x.d.getD 0 0).toNat - 0) := by rw [List.drop_zero, List.length_drop]; congr 1; omega
            rw [← hR]
            have q9 : (0 + ((IntKind.i64.wrap ((x.d.length : Int) - IntKind.i64.wrap ((x.d.getD (0 : Int).toNat 0).toNat : Int))).toNat - (1 : Int).toNat)) * 1 ≤ 140737488355328 ∧ 0 + ((IntKind.i64.wrap ((x.d.length : Int) - IntKind.i64.wrap ((x.d.getD (0 : Int).toNat 0).toNat : Int))).toNat - (1 : Int).toNat) ≤ 140737488355328 := by rw [hn]; omega
            have hL : 0 + ((IntKind.i64.wrap ((x.d.length : Int) - IntKind.i64.wrap ((x.d.getD (0 : Int).toNat 0).toNat : Int))).toNat - (1 : Int).toNat) = ((x.d.drop 1).take (x.d.length - (x.d.getD 0 0).toNat - 1)).length := by rw [hB, hn]; omega
            clear hB hah hu hR hq
            refine agood eok (fn := Try.f22) kr_ de_ rfl kr_ ok_G6 ok_G6 ?_
            repeat' (first | refine o_cons ?_ | refine w_ok rfl ?_ | refine o_nil ?_ | refine q_then ?_ | refine sq ?_ | refine aw_seq ?_ | refine aw_reg ?_ | refine w_pT rfl ka rfl ?_ | refine w_pF rfl ka rfl ?_ | refine o_y rfl ka ?_ | refine o_nT rfl ka ?_ | refine o_nF rfl ka ?_ | refine o_nU rfl ?_ | refine aw_cT rfl ka ?_ | refine aw_cF rfl ka ?_ | refine o_gT rfl (fun h => ?_) (fun h => ?_) | refine o_gF rfl (fun h => ?_) (fun h => ?_) | refine aw_cond rfl (fun h => ?_) (fun h => ?_) | refine aw_block ?_ | refine aw_skip ?_ | refine aw_ret ?_ | refine q_ret ?_ | refine q_blockN ?_ | refine q_blockR ?_ | refine aw_exit ?_ | refine q_exit ?_ | refine q_blockE ?_ | refine q_blockX de_ ?_ | refine fin_r rfl ?_ | (refine w_req rfl ?_ ?_; · exact rq_) | (refine w_lk rfl ?_; refine ⟨_, lk_G6, ?_⟩) | refine w_look (l' := _ :: _) rfl rfl ?_ | refine w_look (l' := []) rfl rfl ?_ | refine w_req rfl ?_ ?_ | refine w_pick rfl (fun b => ?_) | refine aw_drw kr_ ?_ | refine d_cons ?_ | refine l_ok rfl ?_ | refine d_nil kr_ ?_ | refine d_y rfl ka ?_ | refine d_nT rfl ka ?_ | refine d_nF rfl ka ?_ | refine d_nU rfl ?_ | refine l_pT rfl ka rfl ?_ | refine l_pF rfl ka rfl ?_ | refine d_gT rfl (fun h => ?_) (fun h => ?_) | refine d_gF rfl (fun h => ?_) (fun h => ?_) | (refine l_req rfl ?_ ?_; · exact rq_) | (refine l_lk rfl ?_; refine ⟨_, lk_G6, ?_⟩) | refine l_look (l' := _ :: _) rfl rfl ?_ | refine l_look (l' := []) rfl rfl ?_ | refine l_req rfl ?_ ?_)
            rw [hL]
            rfl
        · have q1 : (x.k == 1) = false := by simpa using hk
          have hkp : ¬ (x.k = 1 ∧ (andI x.g 32 != 0) = true) := fun h => hk h.1
          have hB : ((x.d.drop 1).take (x.d.length - (x.d.getD 0 0).toNat - 1)).length = x.d.length - (x.d.getD 0 0).toNat - 1 := by simp only [List.length_take, List.length_drop]; omega
          have hn : ((IntKind.i64.wrap ((x.d.length : Int) - IntKind.i64.wrap ((x.d.getD (0 : Int).toNat 0).toNat : Int))).toNat - (1 : Int).toNat) = x.d.length - (x.d.getD 0 0).toNat - 1 := by rw [wH]; show _ - 1 = _; omega
          have hah : aheadM x = 0 := by unfold aheadM; rw [if_neg hkp]
          have hu : unpM x = unp2 x (x.d.drop 1) ((x.d.getD 0 0).toNat) := by unfold unpM; rw [if_pos h8, if_neg h0]
          rw [hu]
          unfold unp2
          rw [hah]
          have hq : ¬ 0 + (x.d.getD 0 0).toNat > (x.d.drop 1).length := by rw [List.length_drop]; omega
          rw [if_neg hq]
          have hR : ((x.d.drop 1).take (x.d.length - (x.d.getD 0 0).toNat - 1)) = ((x.d.drop 1).drop 0).take ((x.d.drop 1).length - (x.d.getD 0 0).toNat - 0) := by rw [List.drop_zero, List.length_drop]; congr 1; omega
          rw [← hR]
          have q9 : (0 + ((IntKind.i64.wrap ((x.d.length : Int) - IntKind.i64.wrap ((x.d.getD (0 : Int).toNat 0).toNat : Int))).toNat - (1 : Int).toNat)) * 1 ≤ 140737488355328 ∧ 0 + ((IntKind.i64.wrap ((x.d.length : Int) - IntKind.i64.wrap ((x.d.getD (0 : Int).toNat 0).toNat : Int))).toNat - (1 : Int).toNat) ≤ 140737488355328 := by rw [hn]; omega
          have hL : 0 + ((IntKind.i64.wrap ((x.d.length : Int) - IntKind.i64.wrap ((x.d.getD (0 : Int).toNat 0).toNat : Int))).toNat - (1 : Int).toNat) = ((x.d.drop 1).take (x.d.length - (x.d.getD 0 0).toNat - 1)).length := by rw [hB, hn]; omega
          clear hB hah hu hR hq
          refine agood eok (fn := Try.f22) kr_ de_ rfl kr_ ok_G6 ok_G6 ?_
          repeat' (first | refine o_cons ?_ | refine w_ok rfl ?_ | refine o_nil ?_ | refine q_then ?_ | refine sq ?_ | refine aw_seq ?_ | refine aw_reg ?_ | refine w_pT rfl ka rfl ?_ | refine w_pF rfl ka rfl ?_ | refine o_y rfl ka ?_ | refine o_nT rfl ka ?_ | refine o_nF rfl ka ?_ | refine o_nU rfl ?_ | refine aw_cT rfl ka ?_ | refine aw_cF rfl ka ?_ | refine o_gT rfl (fun h => ?_) (fun h => ?_) | refine o_gF rfl (fun h => ?_) (fun h => ?_) | refine aw_cond rfl (fun h => ?_) (fun h => ?_) | refine aw_block ?_ | refine aw_skip ?_ | refine aw_ret ?_ | refine q_ret ?_ | refine q_blockN ?_ | refine q_blockR ?_ | refine aw_exit ?_ | refine q_exit ?_ | refine q_blockE ?_ | refine q_blockX de_ ?_ | refine fin_r rfl ?_ | (refine w_req rfl ?_ ?_; · exact rq_) | (refine w_lk rfl ?_; refine ⟨_, lk_G6, ?_⟩) | refine w_look (l' := _ :: _) rfl rfl ?_ | refine w_look (l' := []) rfl rfl ?_ | refine w_req rfl ?_ ?_ | refine w_pick rfl (fun b => ?_) | refine aw_drw kr_ ?_ | refine d_cons ?_ | refine l_ok rfl ?_ | refine d_nil kr_ ?_ | refine d_y rfl ka ?_ | refine d_nT rfl ka ?_ | refine d_nF rfl ka ?_ | refine d_nU rfl ?_ | refine l_pT rfl ka rfl ?_ | refine l_pF rfl ka rfl ?_ | refine d_gT rfl (fun h => ?_) (fun h => ?_) | refine d_gF rfl (fun h => ?_) (fun h => ?_) | (refine l_req rfl ?_ ?_; · exact rq_) | (refine l_lk rfl ?_; refine ⟨_, lk_G6, ?_⟩) | refine l_look (l' := _ :: _) rfl rfl ?_ | refine l_look (l' := []) rfl rfl ?_ | refine l_req rfl ?_ ?_)
          rw [hL]
          rfl
end Go.Proofs.Ytmckbfmadgfddaa
