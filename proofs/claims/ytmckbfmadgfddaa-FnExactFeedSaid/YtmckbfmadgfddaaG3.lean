import Derived.Test.YtmckbfmadgfddaaG2
namespace Go.Proofs.Ytmckbfmadgfddaa
open Go Go.AM Ty
set_option maxRecDepth 100000
set_option maxHeartbeats 4000000
set_option linter.unusedVariables false
set_option linter.unusedSimpArgs false
attribute [local irreducible] aw aops aopsD wpo wpoL condW guardW thenQ blockQ finQ Le AGood
theorem lk_G3 {p : Prop} (h : p := by first | exact bT_app _ _ | exact e1 | exact e2 | exact lk_) : p := h
theorem ok_G3 {p : Prop} (h : p := by first | exact unpT_ok _ | exact ok_) : p := h
attribute [local irreducible] andI
def aheadM (x : Fm) : Nat := if x.k = 1 ∧ (andI x.g 32 != 0) = true then 5 else 0
def unp2 (x : Fm) (b : List UInt8) (more : Nat) : Option (List UInt8) := if aheadM x + more > b.length then none else some ((b.drop (aheadM x)).take (b.length - more - aheadM x))
def unpM (x : Fm) : Option (List UInt8) := if (andI x.g 8 != 0) = true then (if x.d.length = 0 then none else unp2 x (x.d.drop 1) ((x.d.getD 0 0).toNat)) else unp2 x x.d 0
def unpT (o : Option (List UInt8)) : Tr := .tup [.row 1 (o.getD []).length (bT (o.getD [])), .bool o.isSome]
theorem unpT_ok (o : Option (List UInt8)) : (unpT o).okR := by simp [unpT, Tr.okR, Tr.okRL, bT_plain]
theorem unpadI (x : Fm) {c : Nat} (hc : c = x.d.length) (hl : x.d.length ≤ 1048576) : AGood e.P 28 [x.pa c] (unpT (unpM x)) [kp4] := by
  subst hc
  have c1 := has x rfl 8
  have c2 := has x rfl 32
  have hb := (x.d.getD 0 0).toNat_lt
  cases h8 : (andI x.g 8 != 0) with
  | false =>
    rw [h8] at c1
    by_cases hk : x.k = 1
    · have q1 : (x.k == 1) = true := by simpa using hk
      cases hp : (andI x.g 32 != 0) with
      | true =>
        rw [hp] at c2
        have hB : x.d.length = x.d.length := by rfl
        have hln : (x.d.length : Int) = (x.d.length : Int) := by rfl
        have wM : (0 : Int) = ((0 : Nat) : Int) := by rfl
        have wA : IntKind.i64.wrap (5 + (0 : Int)) = ((5 + 0 : Nat) : Int) := by rw [wM, wrap64 (by omega) (by omega)]; omega
        have hah : aheadM x = 5 := by unfold aheadM; rw [if_pos ⟨hk, hp⟩]
        have hu : unpM x = unp2 x x.d (0) := by unfold unpM; rw [if_neg (by rw [h8]; exact Bool.false_ne_true)]
        rw [hu]
        unfold unp2
        rw [hah]
        by_cases hq : 5 + 0 > x.d.length
        · have k5 : decide (IntKind.i64.wrap (5 + (0 : Int)) > (x.d.length : Int)) = true := by rw [wA, hln]; exact decide_eq_true (by omega)
          rw [if_pos hq]
          clear hB hln wM wA hah hu
          refine agood eok (fn := Try.f28) kr_ de_ rfl kr_ ok_G3 ok_G3 ?_
          repeat' (first | refine o_cons ?_ | refine w_ok rfl ?_ | refine w_call rfl (c1) ?_ | refine w_call rfl (c2) ?_ | refine o_nil ?_ | refine q_then ?_ | refine sq ?_ | refine aw_seq ?_ | refine aw_reg ?_ | refine w_pT rfl ka rfl ?_ | refine w_pF rfl ka rfl ?_ | refine o_y rfl ka ?_ | refine o_nT rfl ka ?_ | refine o_nF rfl ka ?_ | refine o_nU rfl ?_ | refine aw_cT rfl ka ?_ | refine aw_cF rfl ka ?_ | refine o_gT rfl (fun h => ?_) (fun h => ?_) | refine o_gF rfl (fun h => ?_) (fun h => ?_) | refine aw_cond rfl (fun h => ?_) (fun h => ?_) | refine aw_block ?_ | refine aw_skip ?_ | refine aw_ret ?_ | refine q_ret ?_ | refine q_blockN ?_ | refine q_blockR ?_ | refine aw_exit ?_ | refine q_exit ?_ | refine q_blockE ?_ | refine q_blockX de_ ?_ | refine fin_r rfl ?_ | (refine w_req rfl ?_ ?_; · exact rq_) | (refine w_lk rfl ?_; refine ⟨_, lk_G3, ?_⟩) | refine w_look (l' := _ :: _) rfl rfl ?_ | refine w_look (l' := []) rfl rfl ?_ | refine w_req rfl ?_ ?_ | refine w_pick rfl (fun b => ?_) | refine l_call rfl (c1) ?_ | refine l_call rfl (c2) ?_ | refine aw_drw kr_ ?_ | refine d_cons ?_ | refine l_ok rfl ?_ | refine d_nil kr_ ?_ | refine d_y rfl ka ?_ | refine d_nT rfl ka ?_ | refine d_nF rfl ka ?_ | refine d_nU rfl ?_ | refine l_pT rfl ka rfl ?_ | refine l_pF rfl ka rfl ?_ | refine d_gT rfl (fun h => ?_) (fun h => ?_) | refine d_gF rfl (fun h => ?_) (fun h => ?_) | (refine l_req rfl ?_ ?_; · exact rq_) | (refine l_lk rfl ?_; refine ⟨_, lk_G3, ?_⟩) | refine l_look (l' := _ :: _) rfl rfl ?_ | refine l_look (l' := []) rfl rfl ?_ | refine l_req rfl ?_ ?_)
          rfl
        · have k5 : decide (IntKind.i64.wrap (5 + (0 : Int)) > (x.d.length : Int)) = false := by rw [wA, hln]; exact decide_eq_false (by omega)
          have wH : IntKind.i64.wrap ((x.d.length : Int) - (0 : Int)) = ((x.d.length - 0 : Nat) : Int) := by rw [wM, hln, wrap64 (by omega) (by omega)]; omega
          rw [if_neg hq]
          have e2 : ((bT x.d).drop ((5 : Int).toNat * 1)).take (((IntKind.i64.wrap ((x.d.length : Int) - (0 : Int))).toNat - (5 : Int).toNat) * 1) = bT ((x.d.drop 5).take (x.d.length - 0 - 5)) := by rw [bT_cut, wH]; rfl
          have g2 : 0 ≤ (5 : Int) ∧ (5 : Int) ≤ IntKind.i64.wrap ((x.d.length : Int) - (0 : Int)) ∧ IntKind.i64.wrap ((x.d.length : Int) - (0 : Int)) ≤ (x.d.length : Int) := by rw [wH, hln]; omega
          have hR : ((x.d.drop 5).take (x.d.length - 0 - 5)).length = x.d.length - 0 - 5 := by simp only [List.length_take, List.length_drop]; omega
          have c3 := clone ((x.d.drop 5).take (x.d.length - 0 - 5)) (n := (IntKind.i64.wrap ((x.d.length : Int) - (0 : Int))).toNat - (5 : Int).toNat) (by rw [hR, wH]; rfl) (by rw [hR]; omega)
          clear hR wH hB hln wM wA hah hu
          refine agood eok (fn := Try.f28) kr_ de_ rfl kr_ ok_G3 ok_G3 ?_
          repeat' (first | refine o_cons ?_ | refine w_ok rfl ?_ | refine w_call rfl (c1) ?_ | refine w_call rfl (c2) ?_ | refine w_call rfl (c3) ?_ | refine o_nil ?_ | refine q_then ?_ | refine sq ?_ | refine aw_seq ?_ | refine aw_reg ?_ | refine w_pT rfl ka rfl ?_ | refine w_pF rfl ka rfl ?_ | refine o_y rfl ka ?_ | refine o_nT rfl ka ?_ | refine o_nF rfl ka ?_ | refine o_nU rfl ?_ | refine aw_cT rfl ka ?_ | refine aw_cF rfl ka ?_ | refine o_gT rfl (fun h => ?_) (fun h => ?_) | refine o_gF rfl (fun h => ?_) (fun h => ?_) | refine aw_cond rfl (fun h => ?_) (fun h => ?_) | refine aw_block ?_ | refine aw_skip ?_ | refine aw_ret ?_ | refine q_ret ?_ | refine q_blockN ?_ | refine q_blockR ?_ | refine aw_exit ?_ | refine q_exit ?_ | refine q_blockE ?_ | refine q_blockX de_ ?_ | refine fin_r rfl ?_ | (refine w_req rfl ?_ ?_; · exact rq_) | (refine w_lk rfl ?_; refine ⟨_, lk_G3, ?_⟩) | refine w_look (l' := _ :: _) rfl rfl ?_ | refine w_look (l' := []) rfl rfl ?_ | refine w_req rfl ?_ ?_ | refine w_pick rfl (fun b => ?_) | refine l_call rfl (c1) ?_ | refine l_call rfl (c2) ?_ | refine l_call rfl (c3) ?_ | refine aw_drw kr_ ?_ | refine d_cons ?_ | refine l_ok rfl ?_ | refine d_nil kr_ ?_ | refine d_y rfl ka ?_ | refine d_nT rfl ka ?_ | refine d_nF rfl ka ?_ | refine d_nU rfl ?_ | refine l_pT rfl ka rfl ?_ | refine l_pF rfl ka rfl ?_ | refine d_gT rfl (fun h => ?_) (fun h => ?_) | refine d_gF rfl (fun h => ?_) (fun h => ?_) | (refine l_req rfl ?_ ?_; · exact rq_) | (refine l_lk rfl ?_; refine ⟨_, lk_G3, ?_⟩) | refine l_look (l' := _ :: _) rfl rfl ?_ | refine l_look (l' := []) rfl rfl ?_ | refine l_req rfl ?_ ?_)
          rfl
      | false =>
        rw [hp] at c2
        have hkp : ¬ (x.k = 1 ∧ (andI x.g 32 != 0) = true) := fun h => by rw [hp] at h; exact Bool.noConfusion h.2
        have hB : x.d.length = x.d.length := by rfl
        have hln : (x.d.length : Int) = (x.d.length : Int) := by rfl
        have wM : (0 : Int) = ((0 : Nat) : Int) := by rfl
        have wA : IntKind.i64.wrap (0 + (0 : Int)) = ((0 + 0 : Nat) : Int) := by rw [wM, wrap64 (by omega) (by omega)]; omega
        have hah : aheadM x = 0 := by unfold aheadM; rw [if_neg hkp]
        have hu : unpM x = unp2 x x.d (0) := by unfold unpM; rw [if_neg (by rw [h8]; exact Bool.false_ne_true)]
        rw [hu]
        unfold unp2
        rw [hah]
        by_cases hq : 0 + 0 > x.d.length
        · exact absurd hq (by omega)
        · have k5 : decide (IntKind.i64.wrap (0 + (0 : Int)) > (x.d.length : Int)) = false := by rw [wA, hln]; exact decide_eq_false (by omega)
          have wH : IntKind.i64.wrap ((x.d.length : Int) - (0 : Int)) = ((x.d.length - 0 : Nat) : Int) := by rw [wM, hln, wrap64 (by omega) (by omega)]; omega
          rw [if_neg hq]
          have e2 : ((bT x.d).drop ((0 : Int).toNat * 1)).take (((IntKind.i64.wrap ((x.d.length : Int) - (0 : Int))).toNat - (0 : Int).toNat) * 1) = bT ((x.d.drop 0).take (x.d.length - 0 - 0)) := by rw [bT_cut, wH]; rfl
          have g2 : 0 ≤ (0 : Int) ∧ (0 : Int) ≤ IntKind.i64.wrap ((x.d.length : Int) - (0 : Int)) ∧ IntKind.i64.wrap ((x.d.length : Int) - (0 : Int)) ≤ (x.d.length : Int) := by rw [wH, hln]; omega
          have hR : ((x.d.drop 0).take (x.d.length - 0 - 0)).length = x.d.length - 0 - 0 := by simp only [List.length_take, List.length_drop]; omega
          have c3 := clone ((x.d.drop 0).take (x.d.length - 0 - 0)) (n := (IntKind.i64.wrap ((x.d.length : Int) - (0 : Int))).toNat - (0 : Int).toNat) (by rw [hR, wH]; rfl) (by rw [hR]; omega)
          clear hR wH hB hln wM wA hah hu
          refine agood eok (fn := Try.f28) kr_ de_ rfl kr_ ok_G3 ok_G3 ?_
          repeat' (first | refine o_cons ?_ | refine w_ok rfl ?_ | refine w_call rfl (c1) ?_ | refine w_call rfl (c2) ?_ | refine w_call rfl (c3) ?_ | refine o_nil ?_ | refine q_then ?_ | refine sq ?_ | refine aw_seq ?_ | refine aw_reg ?_ | refine w_pT rfl ka rfl ?_ | refine w_pF rfl ka rfl ?_ | refine o_y rfl ka ?_ | refine o_nT rfl ka ?_ | refine o_nF rfl ka ?_ | refine o_nU rfl ?_ | refine aw_cT rfl ka ?_ | refine aw_cF rfl ka ?_ | refine o_gT rfl (fun h => ?_) (fun h => ?_) | refine o_gF rfl (fun h => ?_) (fun h => ?_) | refine aw_cond rfl (fun h => ?_) (fun h => ?_) | refine aw_block ?_ | refine aw_skip ?_ | refine aw_ret ?_ | refine q_ret ?_ | refine q_blockN ?_ | refine q_blockR ?_ | refine aw_exit ?_ | refine q_exit ?_ | refine q_blockE ?_ | refine q_blockX de_ ?_ | refine fin_r rfl ?_ | (refine w_req rfl ?_ ?_; · exact rq_) | (refine w_lk rfl ?_; refine ⟨_, lk_G3, ?_⟩) | refine w_look (l' := _ :: _) rfl rfl ?_ | refine w_look (l' := []) rfl rfl ?_ | refine w_req rfl ?_ ?_ | refine w_pick rfl (fun b => ?_) | refine l_call rfl (c1) ?_ | refine l_call rfl (c2) ?_ | refine l_call rfl (c3) ?_ | refine aw_drw kr_ ?_ | refine d_cons ?_ | refine l_ok rfl ?_ | refine d_nil kr_ ?_ | refine d_y rfl ka ?_ | refine d_nT rfl ka ?_ | refine d_nF rfl ka ?_ | refine d_nU rfl ?_ | refine l_pT rfl ka rfl ?_ | refine l_pF rfl ka rfl ?_ | refine d_gT rfl (fun h => ?_) (fun h => ?_) | refine d_gF rfl (fun h => ?_) (fun h => ?_) | (refine l_req rfl ?_ ?_; · exact rq_) | (refine l_lk rfl ?_; refine ⟨_, lk_G3, ?_⟩) | refine l_look (l' := _ :: _) rfl rfl ?_ | refine l_look (l' := []) rfl rfl ?_ | refine l_req rfl ?_ ?_)
          rfl
    · have q1 : (x.k == 1) = false := by simpa using hk
      have hkp : ¬ (x.k = 1 ∧ (andI x.g 32 != 0) = true) := fun h => hk h.1
      have hB : x.d.length = x.d.length := by rfl
      have hln : (x.d.length : Int) = (x.d.length : Int) := by rfl
      have wM : (0 : Int) = ((0 : Nat) : Int) := by rfl
      have wA : IntKind.i64.wrap (0 + (0 : Int)) = ((0 + 0 : Nat) : Int) := by rw [wM, wrap64 (by omega) (by omega)]; omega
      have hah : aheadM x = 0 := by unfold aheadM; rw [if_neg hkp]
      have hu : unpM x = unp2 x x.d (0) := by unfold unpM; rw [if_neg (by rw [h8]; exact Bool.false_ne_true)]
      rw [hu]
      unfold unp2
      rw [hah]
      by_cases hq : 0 + 0 > x.d.length
      · exact absurd hq (by omega)
      · have k5 : decide (IntKind.i64.wrap (0 + (0 : Int)) > (x.d.length : Int)) = false := by rw [wA, hln]; exact decide_eq_false (by omega)
        have wH : IntKind.i64.wrap ((x.d.length : Int) - (0 : Int)) = ((x.d.length - 0 : Nat) : Int) := by rw [wM, hln, wrap64 (by omega) (by omega)]; omega
        rw [if_neg hq]
        have e2 : ((bT x.d).drop ((0 : Int).toNat * 1)).take (((IntKind.i64.wrap ((x.d.length : Int) - (0 : Int))).toNat - (0 : Int).toNat) * 1) = bT ((x.d.drop 0).take (x.d.length - 0 - 0)) := by rw [bT_cut, wH]; rfl
        have g2 : 0 ≤ (0 : Int) ∧ (0 : Int) ≤ IntKind.i64.wrap ((x.d.length : Int) - (0 : Int)) ∧ IntKind.i64.wrap ((x.d.length : Int) - (0 : Int)) ≤ (x.d.length : Int) := by rw [wH, hln]; omega
        have hR : ((x.d.drop 0).take (x.d.length - 0 - 0)).length = x.d.length - 0 - 0 := by simp only [List.length_take, List.length_drop]; omega
        have c3 := clone ((x.d.drop 0).take (x.d.length - 0 - 0)) (n := (IntKind.i64.wrap ((x.d.length : Int) - (0 : Int))).toNat - (0 : Int).toNat) (by rw [hR, wH]; rfl) (by rw [hR]; omega)
        clear hR wH hB hln wM wA hah hu
        refine agood eok (fn := Try.f28) kr_ de_ rfl kr_ ok_G3 ok_G3 ?_
        repeat' (first | refine o_cons ?_ | refine w_ok rfl ?_ | refine w_call rfl (c1) ?_ | refine w_call rfl (c2) ?_ | refine w_call rfl (c3) ?_ | refine o_nil ?_ | refine q_then ?_ | refine sq ?_ | refine aw_seq ?_ | refine aw_reg ?_ | refine w_pT rfl ka rfl ?_ | refine w_pF rfl ka rfl ?_ | refine o_y rfl ka ?_ | refine o_nT rfl ka ?_ | refine o_nF rfl ka ?_ | refine o_nU rfl ?_ | refine aw_cT rfl ka ?_ | refine aw_cF rfl ka ?_ | refine o_gT rfl (fun h => ?_) (fun h => ?_) | refine o_gF rfl (fun h => ?_) (fun h => ?_) | refine aw_cond rfl (fun h => ?_) (fun h => ?_) | refine aw_block ?_ | refine aw_skip ?_ | refine aw_ret ?_ | refine q_ret ?_ | refine q_blockN ?_ | refine q_blockR ?_ | refine aw_exit ?_ | refine q_exit ?_ | refine q_blockE ?_ | refine q_blockX de_ ?_ | refine fin_r rfl ?_ | (refine w_req rfl ?_ ?_; · exact rq_) | (refine w_lk rfl ?_; refine ⟨_, lk_G3, ?_⟩) | refine w_look (l' := _ :: _) rfl rfl ?_ | refine w_look (l' := []) rfl rfl ?_ | refine w_req rfl ?_ ?_ | refine w_pick rfl (fun b => ?_) | refine l_call rfl (c1) ?_ | refine l_call rfl (c2) ?_ | refine l_call rfl (c3) ?_ | refine aw_drw kr_ ?_ | refine d_cons ?_ | refine l_ok rfl ?_ | refine d_nil kr_ ?_ | refine d_y rfl ka ?_ | refine d_nT rfl ka ?_ | refine d_nF rfl ka ?_ | refine d_nU rfl ?_ | refine l_pT rfl ka rfl ?_ | refine l_pF rfl ka rfl ?_ | refine d_gT rfl (fun h => ?_) (fun h => ?_) | refine d_gF rfl (fun h => ?_) (fun h => ?_) | (refine l_req rfl ?_ ?_; · exact rq_) | (refine l_lk rfl ?_; refine ⟨_, lk_G3, ?_⟩) | refine l_look (l' := _ :: _) rfl rfl ?_ | refine l_look (l' := []) rfl rfl ?_ | refine l_req rfl ?_ ?_)
        rfl
  | true =>
    rw [h8] at c1
    by_cases h0 : x.d.length = 0
    · have q0 : ((x.d.length : Int) == 0) = true := by rw [h0]; rfl
      have hu : unpM x = none := by unfold unpM; rw [if_pos h8, if_pos h0]
      rw [hu]
      refine agood eok (fn := Try.f28) kr_ de_ rfl kr_ ok_G3 ok_G3 ?_
      repeat' (first | refine o_cons ?_ | refine w_ok rfl ?_ | refine w_call rfl (c1) ?_ | refine o_nil ?_ | refine q_then ?_ | refine sq ?_ | refine aw_seq ?_ | refine aw_reg ?_ | refine w_pT rfl ka rfl ?_ | refine w_pF rfl ka rfl ?_ | refine o_y rfl ka ?_ | refine o_nT rfl ka ?_ | refine o_nF rfl ka ?_ | refine o_nU rfl ?_ | refine aw_cT rfl ka ?_ | refine aw_cF rfl ka ?_ | refine o_gT rfl (fun h => ?_) (fun h => ?_) | refine o_gF rfl (fun h => ?_) (fun h => ?_) | refine aw_cond rfl (fun h => ?_) (fun h => ?_) | refine aw_block ?_ | refine aw_skip ?_ | refine aw_ret ?_ | refine q_ret ?_ | refine q_blockN ?_ | refine q_blockR ?_ | refine aw_exit ?_ | refine q_exit ?_ | refine q_blockE ?_ | refine q_blockX de_ ?_ | refine fin_r rfl ?_ | (refine w_req rfl ?_ ?_; · exact rq_) | (refine w_lk rfl ?_; refine ⟨_, lk_G3, ?_⟩) | refine w_look (l' := _ :: _) rfl rfl ?_ | refine w_look (l' := []) rfl rfl ?_ | refine w_req rfl ?_ ?_ | refine w_pick rfl (fun b => ?_) | refine l_call rfl (c1) ?_ | refine aw_drw kr_ ?_ | refine d_cons ?_ | refine l_ok rfl ?_ | refine d_nil kr_ ?_ | refine d_y rfl ka ?_ | refine d_nT rfl ka ?_ | refine d_nF rfl ka ?_ | refine d_nU rfl ?_ | refine l_pT rfl ka rfl ?_ | refine l_pF rfl ka rfl ?_ | refine d_gT rfl (fun h => ?_) (fun h => ?_) | refine d_gF rfl (fun h => ?_) (fun h => ?_) | (refine l_req rfl ?_ ?_; · exact rq_) | (refine l_lk rfl ?_; refine ⟨_, lk_G3, ?_⟩) | refine l_look (l' := _ :: _) rfl rfl ?_ | refine l_look (l' := []) rfl rfl ?_ | refine l_req rfl ?_ ?_)
      rfl
    · have q0 : ((x.d.length : Int) == 0) = false := by rw [beq_eq_false_iff_ne]; omega
      have g0 : 0 ≤ (0 : Int) ∧ (0 : Int) < (x.d.length : Int) := by omega
      have g1 : 0 ≤ (1 : Int) ∧ (1 : Int) ≤ (x.d.length : Int) ∧ (x.d.length : Int) ≤ (x.d.length : Int) := by omega
      have e1 : ((bT x.d).drop ((1 : Int).toNat * 1)).take (((x.d.length : Int).toNat - (1 : Int).toNat) * 1) = bT (x.d.drop 1) := by
        rw [bT_cut, List.take_of_length_le (by rw [List.length_drop]; exact Nat.le_refl _)]
        rfl
      by_cases hk : x.k = 1
      · have q1 : (x.k == 1) = true := by simpa using hk
        cases hp : (andI x.g 32 != 0) with
        | true =>
          rw [hp] at c2
          have hB : (x.d.drop 1).length = x.d.length - 1 := by rw [List.length_drop]
          have hln : (((x.d.length : Int).toNat - (1 : Int).toNat : Nat) : Int) = ((x.d.drop 1).length : Int) := by rw [hB]; omega
          have wM : (IntKind.i64.wrap ((x.d.getD (0 : Int).toNat 0).toNat : Int) : Int) = (((x.d.getD 0 0).toNat : Nat) : Int) := by rw [Int.toNat_zero, wrap64 (by omega) (by omega)]
          have wA : IntKind.i64.wrap (5 + (IntKind.i64.wrap ((x.d.getD (0 : Int).toNat 0).toNat : Int) : Int)) = ((5 + (x.d.getD 0 0).toNat : Nat) : Int) := by rw [wM, wrap64 (by omega) (by omega)]; omega
          have hah : aheadM x = 5 := by unfold aheadM; rw [if_pos ⟨hk, hp⟩]
          have hu : unpM x = unp2 x (x.d.drop 1) ((x.d.getD 0 0).toNat) := by unfold unpM; rw [if_pos h8, if_neg h0]
          rw [hu]
          unfold unp2
          rw [hah]
          by_cases hq : 5 + (x.d.getD 0 0).toNat > (x.d.drop 1).length
          · have k5 : decide (IntKind.i64.wrap (5 + (IntKind.i64.wrap ((x.d.getD (0 : Int).toNat 0).toNat : Int) : Int)) > (((x.d.length : Int).toNat - (1 : Int).toNat : Nat) : Int)) = true := by rw [wA, hln]; exact decide_eq_true (by omega)
            rw [if_pos hq]
            clear hB hln wM wA hah hu
            refine agood eok (fn := Try.f28) kr_ de_ rfl kr_ ok_G3 ok_G3 ?_
            repeat' (first | refine o_cons ?_ | refine w_ok rfl ?_ | refine w_call rfl (c1) ?_ | refine w_call rfl (c2) ?_ | refine o_nil ?_ | refine q_then ?_ | refine sq ?_ | refine aw_seq ?_ | refine aw_reg ?_ | refine w_pT rfl ka rfl ?_ | refine w_pF rfl ka rfl ?_ | refine o_y rfl ka ?_ | refine o_nT rfl ka ?_ | refine o_nF rfl ka ?_ | refine o_nU rfl ?_ | refine aw_cT rfl ka ?_ | refine aw_cF rfl ka ?_ | refine o_gT rfl (fun h => ?_) (fun h => ?_) | refine o_gF rfl (fun h => ?_) (fun h => ?_) | refine aw_cond rfl (fun h => ?_) (fun h => ?_) | refine aw_block ?_ | refine aw_skip ?_ | refine aw_ret ?_ | refine q_ret ?_ | refine q_blockN ?_ | refine q_blockR ?_ | refine aw_exit ?_ | refine q_exit ?_ | refine q_blockE ?_ | refine q_blockX de_ ?_ | refine fin_r rfl ?_ | (refine w_req rfl ?_ ?_; · exact rq_) | (refine w_lk rfl ?_; refine ⟨_, lk_G3, ?_⟩) | refine w_look (l' := _ :: _) rfl rfl ?_ | refine w_look (l' := []) rfl rfl ?_ | refine w_req rfl ?_ ?_ | refine w_pick rfl (fun b => ?_) | refine l_call rfl (c1) ?_ | refine l_call rfl (c2) ?_ | refine aw_drw kr_ ?_ | refine d_cons ?_ | refine l_ok rfl ?_ | refine d_nil kr_ ?_ | refine d_y rfl ka ?_ | refine d_nT rfl ka ?_ | refine d_nF rfl ka ?_ | refine d_nU rfl ?_ | refine l_pT rfl ka rfl ?_ | refine l_pF rfl ka rfl ?_ | refine d_gT rfl (fun h => ?_) (fun h => ?_) | refine d_gF rfl (fun h => ?_) (fun h => ?_) | (refine l_req rfl ?_ ?_; · exact rq_) | (refine l_lk rfl ?_; refine ⟨_, lk_G3, ?_⟩) | refine l_look (l' := _ :: _) rfl rfl ?_ | refine l_look (l' := []) rfl rfl ?_ | refine l_req rfl ?_ ?_)
            rfl
          · have k5 : decide (IntKind.i64.wrap (5 + (IntKind.i64.wrap ((x.d.getD (0 : Int).toNat 0).toNat : Int) : Int)) > (((x.d.length : Int).toNat - (1 : Int).toNat : Nat) : Int)) = false := by rw [wA, hln]; exact decide_eq_false (by omega)
            have wH : IntKind.i64.wrap ((((x.d.length : Int).toNat - (1 : Int).toNat : Nat) : Int) - (IntKind.i64.wrap ((x.d.getD (0 : Int).toNat 0).toNat : Int) : Int)) = (((x.d.drop 1).length - (x.d.getD 0 0).toNat : Nat) : Int) := by rw [wM, hln, wrap64 (by omega) (by omega)]; omega
            rw [if_neg hq]
            have e2 : ((bT (x.d.drop 1)).drop ((5 : Int).toNat * 1)).take (((IntKind.i64.wrap ((((x.d.length : Int).toNat - (1 : Int).toNat : Nat) : Int) - (IntKind.i64.wrap ((x.d.getD (0 : Int).toNat 0).toNat : Int) : Int))).toNat - (5 : Int).toNat) * 1) = bT (((x.d.drop 1).drop 5).take ((x.d.drop 1).length - (x.d.getD 0 0).toNat - 5)) := by rw [bT_cut, wH]; rfl
            have g2 : 0 ≤ (5 : Int) ∧ (5 : Int) ≤ IntKind.i64.wrap ((((x.d.length : Int).toNat - (1 : Int).toNat : Nat) : Int) - (IntKind.i64.wrap ((x.d.getD (0 : Int).toNat 0).toNat : Int) : Int)) ∧ IntKind.i64.wrap ((((x.d.length : Int).toNat - (1 : Int).toNat : Nat) : Int) - (IntKind.i64.wrap ((x.d.getD (0 : Int).toNat 0).toNat : Int) : Int)) ≤ (((x.d.length : Int).toNat - (1 : Int).toNat : Nat) : Int) := by rw [wH, hln]; omega
            have hR : (((x.d.drop 1).drop 5).take ((x.d.drop 1).length - (x.d.getD 0 0).toNat - 5)).length = (x.d.drop 1).length - (x.d.getD 0 0).toNat - 5 := by simp only [List.length_take, List.length_drop]; omega
            have c3 := clone (((x.d.drop 1).drop 5).take ((x.d.drop 1).length - (x.d.getD 0 0).toNat - 5)) (n := (IntKind.i64.wrap ((((x.d.length : Int).toNat - (1 : Int).toNat : Nat) : Int) - (IntKind.i64.wrap ((x.d.getD (0 : Int).toNat 0).toNat : Int) : Int))).toNat - (5 : Int).toNat) (by rw [hR, wH]; rfl) (by rw [hR]; omega)
            clear hR wH hB hln wM wA hah hu
            refine agood eok (fn := Try.f28) kr_ de_ rfl kr_ ok_G3 ok_G3 ?_
            repeat' (first | refine o_cons ?_ | refine w_ok rfl ?_ | refine w_call rfl (c1) ?_ | refine w_call rfl (c2) ?_ | refine w_call rfl (c3) ?_ | refine o_nil ?_ | refine q_then ?_ | refine sq ?_ | refine aw_seq ?_ | refine aw_reg ?_ | refine w_pT rfl ka rfl ?_ | refine w_pF rfl ka rfl ?_ | refine o_y rfl ka ?_ | refine o_nT rfl ka ?_ | refine o_nF rfl ka ?_ | refine o_nU rfl ?_ | refine aw_cT rfl ka ?_ | refine aw_cF rfl ka ?_ | refine o_gT rfl (fun h => ?_) (fun h => ?_) | refine o_gF rfl (fun h => ?_) (fun h => ?_) | refine aw_cond rfl (fun h => ?_) (fun h => ?_) | refine aw_block ?_ | refine aw_skip ?_ | refine aw_ret ?_ | refine q_ret ?_ | refine q_blockN ?_ | refine q_blockR ?_ | refine aw_exit ?_ | refine q_exit ?_ | refine q_blockE ?_ | refine q_blockX de_ ?_ | refine fin_r rfl ?_ | (refine w_req rfl ?_ ?_; · exact rq_) | (refine w_lk rfl ?_; refine ⟨_, lk_G3, ?_⟩) | refine w_look (l' := _ :: _) rfl rfl ?_ | refine w_look (l' := []) rfl rfl ?_ | refine w_req rfl ?_ ?_ | refine w_pick rfl (fun b => ?_) | refine l_call rfl (c1) ?_ | refine l_call rfl (c2) ?_ | refine l_call rfl (c3) ?_ | refine aw_drw kr_ ?_ | refine d_cons ?_ | refine l_ok rfl ?_ | refine d_nil kr_ ?_ | refine d_y rfl ka ?_ | refine d_nT rfl ka ?_ | refine d_nF rfl ka ?_ | refine d_nU rfl ?_ | refine l_pT rfl ka rfl ?_ | refine l_pF rfl ka rfl ?_ | refine d_gT rfl (fun h => ?_) (fun h => ?_) | refine d_gF rfl (fun h => ?_) (fun h => ?_) | (refine l_req rfl ?_ ?_; · exact rq_) | (refine l_lk rfl ?_; refine ⟨_, lk_G3, ?_⟩) | refine l_look (l' := _ :: _) rfl rfl ?_ | refine l_look (l' := []) rfl rfl ?_ | refine l_req rfl ?_ ?_)
            rfl
        | false =>
          rw [hp] at c2
          have hkp : ¬ (x.k = 1 ∧ (andI x.g 32 != 0) = true) := fun h => by rw [hp] at h; exact Bool.noConfusion h.2
          have hB : (x.d.drop 1).length = x.d.length - 1 := by rw [List.length_drop]
          have hln : (((x.d.length : Int).toNat - (1 : Int).toNat : Nat) : Int) = ((x.d.drop 1).length : Int) := by rw [hB]; omega
          have wM : (IntKind.i64.wrap ((x.d.getD (0 : Int).toNat 0).toNat : Int) : Int) = (((x.d.getD 0 0).toNat : Nat) : Int) := by rw [Int.toNat_zero, wrap64 (by omega) (by omega)]
          have wA : IntKind.i64.wrap (0 + (IntKind.i64.wrap ((x.d.getD (0 : Int).toNat 0).toNat : Int) : Int)) = ((0 + (x.d.getD 0 0).toNat : Nat) : Int) := by rw [wM, wrap64 (by omega) (by omega)]; omega
          have hah : aheadM x = 0 := by unfold aheadM; rw [if_neg hkp]
          have hu : unpM x = unp2 x (x.d.drop 1) ((x.d.getD 0 0).toNat) := by unfold unpM; rw [if_pos h8, if_neg h0]
          rw [hu]
          unfold unp2
          rw [hah]
          by_cases hq : 0 + (x.d.getD 0 0).toNat > (x.d.drop 1).length
          · have k5 : decide (IntKind.i64.wrap (0 + (IntKind.i64.wrap ((x.d.getD (0 : Int).toNat 0).toNat : Int) : Int)) > (((x.d.length : Int).toNat - (1 : Int).toNat : Nat) : Int)) = true := by rw [wA, hln]; exact decide_eq_true (by omega)
            rw [if_pos hq]
            clear hB hln wM wA hah hu
            refine agood eok (fn := Try.f28) kr_ de_ rfl kr_ ok_G3 ok_G3 ?_
            repeat' (first | refine o_cons ?_ | refine w_ok rfl ?_ | refine w_call rfl (c1) ?_ | refine w_call rfl (c2) ?_ | refine o_nil ?_ | refine q_then ?_ | refine sq ?_ | refine aw_seq ?_ | refine aw_reg ?_ | refine w_pT rfl ka rfl ?_ | refine w_pF rfl ka rfl ?_ | refine o_y rfl ka ?_ | refine o_nT rfl ka ?_ | refine o_nF rfl ka ?_ | refine o_nU rfl ?_ | refine aw_cT rfl ka ?_ | refine aw_cF rfl ka ?_ | refine o_gT rfl (fun h => ?_) (fun h => ?_) | refine o_gF rfl (fun h => ?_) (fun h => ?_) | refine aw_cond rfl (fun h => ?_) (fun h => ?_) | refine aw_block ?_ | refine aw_skip ?_ | refine aw_ret ?_ | refine q_ret ?_ | refine q_blockN ?_ | refine q_blockR ?_ | refine aw_exit ?_ | refine q_exit ?_ | refine q_blockE ?_ | refine q_blockX de_ ?_ | refine fin_r rfl ?_ | (refine w_req rfl ?_ ?_; · exact rq_) | (refine w_lk rfl ?_; refine ⟨_, lk_G3, ?_⟩) | refine w_look (l' := _ :: _) rfl rfl ?_ | refine w_look (l' := []) rfl rfl ?_ | refine w_req rfl ?_ ?_ | refine w_pick rfl (fun b => ?_) | refine l_call rfl (c1) ?_ | refine l_call rfl (c2) ?_ | refine aw_drw kr_ ?_ | refine d_cons ?_ | refine l_ok rfl ?_ | refine d_nil kr_ ?_ | refine d_y rfl ka ?_ | refine d_nT rfl ka ?_ | refine d_nF rfl ka ?_ | refine d_nU rfl ?_ | refine l_pT rfl ka rfl ?_ | refine l_pF rfl ka rfl ?_ | refine d_gT rfl (fun h => ?_) (fun h => ?_) | refine d_gF rfl (fun h => ?_) (fun h => ?_) | (refine l_req rfl ?_ ?_; · exact rq_) | (refine l_lk rfl ?_; refine ⟨_, lk_G3, ?_⟩) | refine l_look (l' := _ :: _) rfl rfl ?_ | refine l_look (l' := []) rfl rfl ?_ | refine l_req rfl ?_ ?_)
            rfl
          · have k5 : decide (IntKind.i64.wrap (0 + (IntKind.i64.wrap ((x.d.getD (0 : Int).toNat 0).toNat : Int) : Int)) > (((x.d.length : Int).toNat - (1 : Int).toNat : Nat) : Int)) = false := by rw [wA, hln]; exact decide_eq_false (by omega)
            have wH : IntKind.i64.wrap ((((x.d.length : Int).toNat - (1 : Int).toNat : Nat) : Int) - (IntKind.i64.wrap ((x.d.getD (0 : Int).toNat 0).toNat : Int) : Int)) = (((x.d.drop 1).length - (x.d.getD 0 0).toNat : Nat) : Int) := by rw [wM, hln, wrap64 (by omega) (by omega)]; omega
            rw [if_neg hq]
            have e2 : ((bT (x.d.drop 1)).drop ((0 : Int).toNat * 1)).take (((IntKind.i64.wrap ((((x.d.length : Int).toNat - (1 : Int).toNat : Nat) : Int) - (IntKind.i64.wrap ((x.d.getD (0 : Int).toNat 0).toNat : Int) : Int))).toNat - (0 : Int).toNat) * 1) = bT (((x.d.drop 1).drop 0).take ((x.d.drop 1).length - (x.d.getD 0 0).toNat - 0)) := by rw [bT_cut, wH]; rfl
            have g2 : 0 ≤ (0 : Int) ∧ (0 : Int) ≤ IntKind.i64.wrap ((((x.d.length : Int).toNat - (1 : Int).toNat : Nat) : Int) - (IntKind.i64.wrap ((x.d.getD (0 : Int).toNat 0).toNat : Int) : Int)) ∧ IntKind.i64.wrap ((((x.d.length : Int).toNat - (1 : Int).toNat : Nat) : Int) - (IntKind.i64.wrap ((x.d.getD (0 : Int).toNat 0).toNat : Int) : Int)) ≤ (((x.d.length : Int).toNat - (1 : Int).toNat : Nat) : Int) := by rw [wH, hln]; omega
            have hR : (((x.d.drop 1).drop 0).take ((x.d.drop 1).length - (x.d.getD 0 0).toNat - 0)).length = (x.d.drop 1).length - (x.d.getD 0 0).toNat - 0 := by simp only [List.length_take, List.length_drop]; omega
            have c3 := clone (((x.d.drop 1).drop 0).take ((x.d.drop 1).length - (x.d.getD 0 0).toNat - 0)) (n := (IntKind.i64.wrap ((((x.d.length : Int).toNat - (1 : Int).toNat : Nat) : Int) - (IntKind.i64.wrap ((x.d.getD (0 : Int).toNat 0).toNat : Int) : Int))).toNat - (0 : Int).toNat) (by rw [hR, wH]; rfl) (by rw [hR]; omega)
            clear hR wH hB hln wM wA hah hu
            refine agood eok (fn := Try.f28) kr_ de_ rfl kr_ ok_G3 ok_G3 ?_
            repeat' (first | refine o_cons ?_ | refine w_ok rfl ?_ | refine w_call rfl (c1) ?_ | refine w_call rfl (c2) ?_ | refine w_call rfl (c3) ?_ | refine o_nil ?_ | refine q_then ?_ | refine sq ?_ | refine aw_seq ?_ | refine aw_reg ?_ | refine w_pT rfl ka rfl ?_ | refine w_pF rfl ka rfl ?_ | refine o_y rfl ka ?_ | refine o_nT rfl ka ?_ | refine o_nF rfl ka ?_ | refine o_nU rfl ?_ | refine aw_cT rfl ka ?_ | refine aw_cF rfl ka ?_ | refine o_gT rfl (fun h => ?_) (fun h => ?_) | refine o_gF rfl (fun h => ?_) (fun h => ?_) | refine aw_cond rfl (fun h => ?_) (fun h => ?_) | refine aw_block ?_ | refine aw_skip ?_ | refine aw_ret ?_ | refine q_ret ?_ | refine q_blockN ?_ | refine q_blockR ?_ | refine aw_exit ?_ | refine q_exit ?_ | refine q_blockE ?_ | refine q_blockX de_ ?_ | refine fin_r rfl ?_ | (refine w_req rfl ?_ ?_; · exact rq_) | (refine w_lk rfl ?_; refine ⟨_, lk_G3, ?_⟩) | refine w_look (l' := _ :: _) rfl rfl ?_ | refine w_look (l' := []) rfl rfl ?_ | refine w_req rfl ?_ ?_ | refine w_pick rfl (fun b => ?_) | refine l_call rfl (c1) ?_ | refine l_call rfl (c2) ?_ | refine l_call rfl (c3) ?_ | refine aw_drw kr_ ?_ | refine d_cons ?_ | refine l_ok rfl ?_ | refine d_nil kr_ ?_ | refine d_y rfl ka ?_ | refine d_nT rfl ka ?_ | refine d_nF rfl ka ?_ | refine d_nU rfl ?_ | refine l_pT rfl ka rfl ?_ | refine l_pF rfl ka rfl ?_ | refine d_gT rfl (fun h => ?_) (fun h => ?_) | refine d_gF rfl (fun h => ?_) (fun h => ?_) | (refine l_req rfl ?_ ?_; · exact rq_) | (refine l_lk rfl ?_; refine ⟨_, lk_G3, ?_⟩) | refine l_look (l' := _ :: _) rfl rfl ?_ | refine l_look (l' := []) rfl rfl ?_ | refine l_req rfl ?_ ?_)
            rfl
      · have q1 : (x.k == 1) = false := by simpa using hk
        have hkp : ¬ (x.k = 1 ∧ (andI x.g 32 != 0) = true) := fun h => hk h.1
        have hB : (x.d.drop 1).length = x.d.length - 1 := by rw [List.length_drop]
        have hln : (((x.d.length : Int).toNat - (1 : Int).toNat : Nat) : Int) = ((x.d.drop 1).length : Int) := by rw [hB]; omega
        have wM : (IntKind.i64.wrap ((x.d.getD (0 : Int).toNat 0).toNat : Int) : Int) = (((x.d.getD 0 0).toNat : Nat) : Int) := by rw [Int.toNat_zero, wrap64 (by omega) (by omega)]
        have wA : IntKind.i64.wrap (0 + (IntKind.i64.wrap ((x.d.getD (0 : Int).toNat 0).toNat : Int) : Int)) = ((0 + (x.d.getD 0 0).toNat : Nat) : Int) := by rw [wM, wrap64 (by omega) (by omega)]; omega
        have hah : aheadM x = 0 := by unfold aheadM; rw [if_neg hkp]
        have hu : unpM x = unp2 x (x.d.drop 1) ((x.d.getD 0 0).toNat) := by unfold unpM; rw [if_pos h8, if_neg h0]
        rw [hu]
        unfold unp2
        rw [hah]
        by_cases hq : 0 + (x.d.getD 0 0).toNat > (x.d.drop 1).length
        · have k5 : decide (IntKind.i64.wrap (0 + (IntKind.i64.wrap ((x.d.getD (0 : Int).toNat 0).toNat : Int) : Int)) > (((x.d.length : Int).toNat - (1 : Int).toNat : Nat) : Int)) = true := by rw [wA, hln]; exact decide_eq_true (by omega)
          rw [if_pos hq]
          clear hB hln wM wA hah hu
          refine agood eok (fn := Try.f28) kr_ de_ rfl kr_ ok_G3 ok_G3 ?_
          repeat' (first | refine o_cons ?_ | refine w_ok rfl ?_ | refine w_call rfl (c1) ?_ | refine w_call rfl (c2) ?_ | refine o_nil ?_ | refine q_then ?_ | refine sq ?_ | refine aw_seq ?_ | refine aw_reg ?_ | refine w_pT rfl ka rfl ?_ | refine w_pF rfl ka rfl ?_ | refine o_y rfl ka ?_ | refine o_nT rfl ka ?_ | refine o_nF rfl ka ?_ | refine o_nU rfl ?_ | refine aw_cT rfl ka ?_ | refine aw_cF rfl ka ?_ | refine o_gT rfl (fun h => ?_) (fun h => ?_) | refine o_gF rfl (fun h => ?_) (fun h => ?_) | refine aw_cond rfl (fun h => ?_) (fun h => ?_) | refine aw_block ?_ | refine aw_skip ?_ | refine aw_ret ?_ | refine q_ret ?_ | refine q_blockN ?_ | refine q_blockR ?_ | refine aw_exit ?_ | refine q_exit ?_ | refine q_blockE ?_ | refine q_blockX de_ ?_ | refine fin_r rfl ?_ | (refine w_req rfl ?_ ?_; · exact rq_) | (refine w_lk rfl ?_; refine ⟨_, lk_G3, ?_⟩) | refine w_look (l' := _ :: _) rfl rfl ?_ | refine w_look (l' := []) rfl rfl ?_ | refine w_req rfl ?_ ?_ | refine w_pick rfl (fun b => ?_) | refine l_call rfl (c1) ?_ | refine l_call rfl (c2) ?_ | refine aw_drw kr_ ?_ | refine d_cons ?_ | refine l_ok rfl ?_ | refine d_nil kr_ ?_ | refine d_y rfl ka ?_ | refine d_nT rfl ka ?_ | refine d_nF rfl ka ?_ | refine d_nU rfl ?_ | refine l_pT rfl ka rfl ?_ | refine l_pF rfl ka rfl ?_ | refine d_gT rfl (fun h => ?_) (fun h => ?_) | refine d_gF rfl (fun h => ?_) (fun h => ?_) | (refine l_req rfl ?_ ?_; · exact rq_) | (refine l_lk rfl ?_; refine ⟨_, lk_G3, ?_⟩) | refine l_look (l' := _ :: _) rfl rfl ?_ | refine l_look (l' := []) rfl rfl ?_ | refine l_req rfl ?_ ?_)
          rfl
        · have k5 : decide (IntKind.i64.wrap (0 + (IntKind.i64.wrap ((x.d.getD (0 : Int).toNat 0).toNat : Int) : Int)) > (((x.d.length : Int).toNat - (1 : Int).toNat : Nat) : Int)) = false := by rw [wA, hln]; exact decide_eq_false (by omega)
          have wH : IntKind.i64.wrap ((((x.d.length : Int).toNat - (1 : Int).toNat : Nat) : Int) - (IntKind.i64.wrap ((x.d.getD (0 : Int).toNat 0).toNat : Int) : Int)) = (((x.d.drop 1).length - (x.d.getD 0 0).toNat : Nat) : Int) := by rw [wM, hln, wrap64 (by omega) (by omega)]; omega
          rw [if_neg hq]
          have e2 : ((bT (x.d.drop 1)).drop ((0 : Int).toNat * 1)).take (((IntKind.i64.wrap ((((x.d.length : Int).toNat - (1 : Int).toNat : Nat) : Int) - (IntKind.i64.wrap ((x.d.getD (0 : Int).toNat 0).toNat : Int) : Int))).toNat - (0 : Int).toNat) * 1) = bT (((x.d.drop 1).drop 0).take ((x.d.drop 1).length - (x.d.getD 0 0).toNat - 0)) := by rw [bT_cut, wH]; rfl
          have g2 : 0 ≤ (0 : Int) ∧ (0 : Int) ≤ IntKind.i64.wrap ((((x.d.length : Int).toNat - (1 : Int).toNat : Nat) : Int) - (IntKind.i64.wrap ((x.d.getD (0 : Int).toNat 0).toNat : Int) : Int)) ∧ IntKind.i64.wrap ((((x.d.length : Int).toNat - (1 : Int).toNat : Nat) : Int) - (IntKind.i64.wrap ((x.d.getD (0 : Int).toNat 0).toNat : Int) : Int)) ≤ (((x.d.length : Int).toNat - (1 : Int).toNat : Nat) : Int) := by rw [wH, hln]; omega
          have hR : (((x.d.drop 1).drop 0).take ((x.d.drop 1).length - (x.d.getD 0 0).toNat - 0)).length = (x.d.drop 1).length - (x.d.getD 0 0).toNat - 0 := by simp only [List.length_take, List.length_drop]; omega
          have c3 := clone (((x.d.drop 1).drop 0).take ((x.d.drop 1).length - (x.d.getD 0 0).toNat - 0)) (n := (IntKind.i64.wrap ((((x.d.length : Int).toNat - (1 : Int).toNat : Nat) : Int) - (IntKind.i64.wrap ((x.d.getD (0 : Int).toNat 0).toNat : Int) : Int))).toNat - (0 : Int).toNat) (by rw [hR, wH]; rfl) (by rw [hR]; omega)
          clear hR wH hB hln wM wA hah hu
          refine agood eok (fn := Try.f28) kr_ de_ rfl kr_ ok_G3 ok_G3 ?_
          repeat' (first | refine o_cons ?_ | refine w_ok rfl ?_ | refine w_call rfl (c1) ?_ | refine w_call rfl (c2) ?_ | refine w_call rfl (c3) ?_ | refine o_nil ?_ | refine q_then ?_ | refine sq ?_ | refine aw_seq ?_ | refine aw_reg ?_ | refine w_pT rfl ka rfl ?_ | refine w_pF rfl ka rfl ?_ | refine o_y rfl ka ?_ | refine o_nT rfl ka ?_ | refine o_nF rfl ka ?_ | refine o_nU rfl ?_ | refine aw_cT rfl ka ?_ | refine aw_cF rfl ka ?_ | refine o_gT rfl (fun h => ?_) (fun h => ?_) | refine o_gF rfl (fun h => ?_) (fun h => ?_) | refine aw_cond rfl (fun h => ?_) (fun h => ?_) | refine aw_block ?_ | refine aw_skip ?_ | refine aw_ret ?_ | refine q_ret ?_ | refine q_blockN ?_ | refine q_blockR ?_ | refine aw_exit ?_ | refine q_exit ?_ | refine q_blockE ?_ | refine q_blockX de_ ?_ | refine fin_r rfl ?_ | (refine w_req rfl ?_ ?_; · exact rq_) | (refine w_lk rfl ?_; refine ⟨_, lk_G3, ?_⟩) | refine w_look (l' := _ :: _) rfl rfl ?_ | refine w_look (l' := []) rfl rfl ?_ | refine w_req rfl ?_ ?_ | refine w_pick rfl (fun b => ?_) | refine l_call rfl (c1) ?_ | refine l_call rfl (c2) ?_ | refine l_call rfl (c3) ?_ | refine aw_drw kr_ ?_ | refine d_cons ?_ | refine l_ok rfl ?_ | refine d_nil kr_ ?_ | refine d_y rfl ka ?_ | refine d_nT rfl ka ?_ | refine d_nF rfl ka ?_ | refine d_nU rfl ?_ | refine l_pT rfl ka rfl ?_ | refine l_pF rfl ka rfl ?_ | refine d_gT rfl (fun h => ?_) (fun h => ?_) | refine d_gF rfl (fun h => ?_) (fun h => ?_) | (refine l_req rfl ?_ ?_; · exact rq_) | (refine l_lk rfl ?_; refine ⟨_, lk_G3, ?_⟩) | refine l_look (l' := _ :: _) rfl rfl ?_ | refine l_look (l' := []) rfl rfl ?_ | refine l_req rfl ?_ ?_)
          rfl
end Go.Proofs.Ytmckbfmadgfddaa
