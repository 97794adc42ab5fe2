import Derived.Test.YtbkpmljdmlhmhaaF2
import Derived.Test.YtbkpmljdmlhmhaaF3
namespace Go.Proofs.Ytbkpmljdmlhmhaa
open Go Go.AM Ty
set_option maxRecDepth 100000
set_option maxHeartbeats 4000000
set_option linter.unusedVariables false
set_option linter.unusedSimpArgs false
attribute [local irreducible] aw aops aopsD wpo wpoL condW guardW thenQ blockQ finQ Le AGood
theorem rq_F6 {p : Prop} (h : p := by first | assumption | exact uT_plain _ | exact sT_plain _ | exact nT_plain _ | exact rq_) : p := h
theorem lk_F6 {p : Prop} (h : p := by first | exact bT_app _ _ | exact mp_el (f := Tr.str) emp side_ | exact lk_) : p := h
theorem ok_F6 {p : Prop} (h : p := by first | exact ⟨⟨sT_plain _, sT_plain _, trivial, trivial, uT_plain _, trivial⟩, by simp [cells1, Tr.cellB]⟩ | (simp [Tr.okR, Tr.okRL, Tr.plainL, Tr.plain, cells1, Tr.cellB, PB.okRL, PB.okR, bT_plain, sT_plain, oT_plain, nT_plain, uT_plain, sT_plain, up_pl]; done) | exact ok_) : p := h
attribute [local irreducible] bwC bwX btC btX dOk okM dropM syncM openM upAtM putS
theorem some4 (l : List UInt8) (hl : l.length ≤ 4294967296) (s : St) (g : StG s) {c d1 d2 : Cur} {id : ByteArray} (p : SPre l c d1 d2 id 4) : SRes l c s := by
  obtain ⟨s1, s2, hid, k2⟩ := p
  have hu := upAt_d g id
  have c0 := upAtS s id g.sm
  have s3 : AGood e.P 117 [curPA l l.length d2, .ro (.row 1 4 (nT [1, 3, 24, 30]))] (.int .i64 (([1, 3, 24, 30] : List Int).getD (bwX l d2 4).toNat 0)) [curPB (bwC l d2 4), .keep] := l1Int l rfl d2 [1, 3, 24, 30] (k := 4) rfl (by decide) k2 hl
  have hN : 0 ≤ ([1, 3, 24, 30] : List Int).getD (bwX l d2 4).toNat 0 ∧ ([1, 3, 24, 30] : List Int).getD (bwX l d2 4).toNat 0 ≤ 30 := getD4 (P := fun x => 0 ≤ x ∧ x ≤ 30) (by decide) (by decide) (by decide) (by decide) (by decide)
  have k3 : (bwC l d2 4).ok l := bwC_ok _ k2
  generalize bwC l d2 4 = d3 at s3 k3
  generalize ([1, 3, 24, 30] : List Int).getD (bwX l d2 4).toNat 0 = N at s3 hN
  have put : ∀ (n : Int) (d : Cur), n ≤ 30 → d.ok l → ∃ s' k', StG s' ∧ AGood e.P 147 [stR s, .ro (.str id), .ro (.int .i64 (((upAtM s id).getD zeroU).d.length : Int)), .ro (.row 1 n.toNat (bT (btX l d n.toNat)))] (.tup [stT s', .int .i64 k']) [keep5, .keep, .keep, .keep] := fun n d hn hd =>
    putUpS s g id hid _ (btX l d n.toNat) (btX_len _ _ _).symm (by rw [btX_len]; omega)
  unfold upTr at c0
  cases ho : (upAtM s id).isSome with
  | false =>
    rw [ho] at c0
    obtain ⟨s', k', g', c4⟩ := put N d3 hN.2 k3
    have s5 := l1Bytes l rfl d3 N (by omega) k3 hl
    refine ⟨s', btC l d3 N.toNat, btC_ok k3 _, g', forgetS (s := s) ?_⟩
    refine agood eok (fn := Try.f136) kr_ de_ rfl kr_ ok_F6 ok_F6 ?_
    repeat' (first | refine o_cons ?_ | refine w_ok rfl ?_ | refine w_call rfl (s1) ?_ | refine w_call rfl (s2) ?_ | refine w_call rfl (c0) ?_ | refine w_call rfl (s3) ?_ | refine w_call rfl (s5) ?_ | refine w_call rfl (c4) ?_ | refine o_nil ?_ | refine q_then ?_ | refine sq ?_ | refine aw_seq ?_ | refine aw_reg ?_ | refine w_pT rfl ka rfl ?_ | refine w_pF rfl ka rfl ?_ | refine o_y rfl ka ?_ | refine o_nT rfl ka ?_ | refine o_nF rfl ka ?_ | refine o_nU rfl ?_ | refine aw_cT rfl ka ?_ | refine aw_cF rfl ka ?_ | refine o_gT rfl (fun h => ?_) (fun h => ?_) | refine o_gF rfl (fun h => ?_) (fun h => ?_) | refine aw_cond rfl (fun h => ?_) (fun h => ?_) | refine aw_block ?_ | refine aw_skip ?_ | refine aw_ret ?_ | refine q_ret ?_ | refine q_blockN ?_ | refine q_blockR ?_ | refine aw_exit ?_ | refine q_exit ?_ | refine q_blockE ?_ | refine q_blockX de_ ?_ | refine fin_r rfl ?_ | (refine w_req rfl ?_ ?_; · exact rq_F6) | (refine w_lk rfl ?_; refine ⟨_, lk_F6, ?_⟩) | refine w_look (l' := _ :: _) rfl rfl ?_ | refine w_look (l' := []) rfl rfl ?_ | refine w_req rfl ?_ ?_ | refine w_pick rfl (fun b => ?_) | refine l_call rfl (s1) ?_ | refine l_call rfl (s2) ?_ | refine l_call rfl (c0) ?_ | refine l_call rfl (s3) ?_ | refine l_call rfl (s5) ?_ | refine l_call rfl (c4) ?_ | refine aw_drw kr_ ?_ | refine d_cons ?_ | refine l_ok rfl ?_ | refine d_nil kr_ ?_ | refine d_y rfl ka ?_ | refine d_nT rfl ka ?_ | refine d_nF rfl ka ?_ | refine d_nU rfl ?_ | refine l_pT rfl ka rfl ?_ | refine l_pF rfl ka rfl ?_ | refine d_gT rfl (fun h => ?_) (fun h => ?_) | refine d_gF rfl (fun h => ?_) (fun h => ?_) | (refine l_req rfl ?_ ?_; · exact rq_F6) | (refine l_lk rfl ?_; refine ⟨_, lk_F6, ?_⟩) | refine l_look (l' := _ :: _) rfl rfl ?_ | refine l_look (l' := []) rfl rfl ?_ | refine l_req rfl ?_ ?_)
    rfl
  | true =>
    rw [ho] at c0
    by_cases hq : N > IntKind.i64.wrap (((upAtM s id).getD zeroU).w - (((upAtM s id).getD zeroU).d.length : Int))
    · have k4 : decide (N > IntKind.i64.wrap (((upAtM s id).getD zeroU).w - (((upAtM s id).getD zeroU).d.length : Int))) = true := decide_eq_true hq
      have s4 := l1Once l rfl d3 5 k3 hl
      have k5 : (bwC l d3 5).ok l := bwC_ok _ k3
      generalize bwC l d3 5 = d4 at s4 k5
      cases hb : (bwX l d3 5 == 0) with
      | true =>
        rw [hb] at s4
        obtain ⟨s', k', g', c4⟩ := put N d4 hN.2 k5
        have s5 := l1Bytes l rfl d4 N (by omega) k5 hl
        refine ⟨s', btC l d4 N.toNat, btC_ok k5 _, g', forgetS (s := s) ?_⟩
        refine agood eok (fn := Try.f136) kr_ de_ rfl kr_ ok_F6 ok_F6 ?_
        repeat' (first | refine o_cons ?_ | refine w_ok rfl ?_ | refine w_call rfl (s1) ?_ | refine w_call rfl (s2) ?_ | refine w_call rfl (c0) ?_ | refine w_call rfl (s3) ?_ | refine w_call rfl (s4) ?_ | refine w_call rfl (s5) ?_ | refine w_call rfl (c4) ?_ | refine o_nil ?_ | refine q_then ?_ | refine sq ?_ | refine aw_seq ?_ | refine aw_reg ?_ | refine w_pT rfl ka rfl ?_ | refine w_pF rfl ka rfl ?_ | refine o_y rfl ka ?_ | refine o_nT rfl ka ?_ | refine o_nF rfl ka ?_ | refine o_nU rfl ?_ | refine aw_cT rfl ka ?_ | refine aw_cF rfl ka ?_ | refine o_gT rfl (fun h => ?_) (fun h => ?_) | refine o_gF rfl (fun h => ?_) (fun h => ?_) | refine aw_cond rfl (fun h => ?_) (fun h => ?_) | refine aw_block ?_ | refine aw_skip ?_ | refine aw_ret ?_ | refine q_ret ?_ | refine q_blockN ?_ | refine q_blockR ?_ | refine aw_exit ?_ | refine q_exit ?_ | refine q_blockE ?_ | refine q_blockX de_ ?_ | refine fin_r rfl ?_ | (refine w_req rfl ?_ ?_; · exact rq_F6) | (refine w_lk rfl ?_; refine ⟨_, lk_F6, ?_⟩) | refine w_look (l' := _ :: _) rfl rfl ?_ | refine w_look (l' := []) rfl rfl ?_ | refine w_req rfl ?_ ?_ | refine w_pick rfl (fun b => ?_) | refine l_call rfl (s1) ?_ | refine l_call rfl (s2) ?_ | refine l_call rfl (c0) ?_ | refine l_call rfl (s3) ?_ | refine l_call rfl (s4) ?_ | refine l_call rfl (s5) ?_ | refine l_call rfl (c4) ?_ | refine aw_drw kr_ ?_ | refine d_cons ?_ | refine l_ok rfl ?_ | refine d_nil kr_ ?_ | refine d_y rfl ka ?_ | refine d_nT rfl ka ?_ | refine d_nF rfl ka ?_ | refine d_nU rfl ?_ | refine l_pT rfl ka rfl ?_ | refine l_pF rfl ka rfl ?_ | refine d_gT rfl (fun h => ?_) (fun h => ?_) | refine d_gF rfl (fun h => ?_) (fun h => ?_) | (refine l_req rfl ?_ ?_; · exact rq_F6) | (refine l_lk rfl ?_; refine ⟨_, lk_F6, ?_⟩) | refine l_look (l' := _ :: _) rfl rfl ?_ | refine l_look (l' := []) rfl rfl ?_ | refine l_req rfl ?_ ?_)
        rfl
      | false =>
        rw [hb] at s4
        obtain ⟨s', k', g', c4⟩ := put (IntKind.i64.wrap (((upAtM s id).getD zeroU).w - (((upAtM s id).getD zeroU).d.length : Int))) d4 (by omega) k5
        have s5 := l1Bytes l rfl d4 (IntKind.i64.wrap (((upAtM s id).getD zeroU).w - (((upAtM s id).getD zeroU).d.length : Int))) (by omega) k5 hl
        refine ⟨s', btC l d4 (IntKind.i64.wrap (((upAtM s id).getD zeroU).w - (((upAtM s id).getD zeroU).d.length : Int))).toNat, btC_ok k5 _, g', forgetS (s := s) ?_⟩
        refine agood eok (fn := Try.f136) kr_ de_ rfl kr_ ok_F6 ok_F6 ?_
        repeat' (first | refine o_cons ?_ | refine w_ok rfl ?_ | refine w_call rfl (s1) ?_ | refine w_call rfl (s2) ?_ | refine w_call rfl (c0) ?_ | refine w_call rfl (s3) ?_ | refine w_call rfl (s4) ?_ | refine w_call rfl (s5) ?_ | refine w_call rfl (c4) ?_ | refine o_nil ?_ | refine q_then ?_ | refine sq ?_ | refine aw_seq ?_ | refine aw_reg ?_ | refine w_pT rfl ka rfl ?_ | refine w_pF rfl ka rfl ?_ | refine o_y rfl ka ?_ | refine o_nT rfl ka ?_ | refine o_nF rfl ka ?_ | refine o_nU rfl ?_ | refine aw_cT rfl ka ?_ | refine aw_cF rfl ka ?_ | refine o_gT rfl (fun h => ?_) (fun h => ?_) | refine o_gF rfl (fun h => ?_) (fun h => ?_) | refine aw_cond rfl (fun h => ?_) (fun h => ?_) | refine aw_block ?_ | refine aw_skip ?_ | refine aw_ret ?_ | refine q_ret ?_ | refine q_blockN ?_ | refine q_blockR ?_ | refine aw_exit ?_ | refine q_exit ?_ | refine q_blockE ?_ | refine q_blockX de_ ?_ | refine fin_r rfl ?_ | (refine w_req rfl ?_ ?_; · exact rq_F6) | (refine w_lk rfl ?_; refine ⟨_, lk_F6, ?_⟩) | refine w_look (l' := _ :: _) rfl rfl ?_ | refine w_look (l' := []) rfl rfl ?_ | refine w_req rfl ?_ ?_ | refine w_pick rfl (fun b => ?_) | refine l_call rfl (s1) ?_ | refine l_call rfl (s2) ?_ | refine l_call rfl (c0) ?_ | refine l_call rfl (s3) ?_ | refine l_call rfl (s4) ?_ | refine l_call rfl (s5) ?_ | refine l_call rfl (c4) ?_ | refine aw_drw kr_ ?_ | refine d_cons ?_ | refine l_ok rfl ?_ | refine d_nil kr_ ?_ | refine d_y rfl ka ?_ | refine d_nT rfl ka ?_ | refine d_nF rfl ka ?_ | refine d_nU rfl ?_ | refine l_pT rfl ka rfl ?_ | refine l_pF rfl ka rfl ?_ | refine d_gT rfl (fun h => ?_) (fun h => ?_) | refine d_gF rfl (fun h => ?_) (fun h => ?_) | (refine l_req rfl ?_ ?_; · exact rq_F6) | (refine l_lk rfl ?_; refine ⟨_, lk_F6, ?_⟩) | refine l_look (l' := _ :: _) rfl rfl ?_ | refine l_look (l' := []) rfl rfl ?_ | refine l_req rfl ?_ ?_)
        rfl
    · have k4 : decide (N > IntKind.i64.wrap (((upAtM s id).getD zeroU).w - (((upAtM s id).getD zeroU).d.length : Int))) = false := decide_eq_false hq
      obtain ⟨s', k', g', c4⟩ := put N d3 hN.2 k3
      have s5 := l1Bytes l rfl d3 N (by omega) k3 hl
      refine ⟨s', btC l d3 N.toNat, btC_ok k3 _, g', forgetS (s := s) ?_⟩
      refine agood eok (fn := Try.f136) kr_ de_ rfl kr_ ok_F6 ok_F6 ?_
      repeat' (first | refine o_cons ?_ | refine w_ok rfl ?_ | refine w_call rfl (s1) ?_ | refine w_call rfl (s2) ?_ | refine w_call rfl (c0) ?_ | refine w_call rfl (s3) ?_ | refine w_call rfl (s5) ?_ | refine w_call rfl (c4) ?_ | refine o_nil ?_ | refine q_then ?_ | refine sq ?_ | refine aw_seq ?_ | refine aw_reg ?_ | refine w_pT rfl ka rfl ?_ | refine w_pF rfl ka rfl ?_ | refine o_y rfl ka ?_ | refine o_nT rfl ka ?_ | refine o_nF rfl ka ?_ | refine o_nU rfl ?_ | refine aw_cT rfl ka ?_ | refine aw_cF rfl ka ?_ | refine o_gT rfl (fun h => ?_) (fun h => ?_) | refine o_gF rfl (fun h => ?_) (fun h => ?_) | refine aw_cond rfl (fun h => ?_) (fun h => ?_) | refine aw_block ?_ | refine aw_skip ?_ | refine aw_ret ?_ | refine q_ret ?_ | refine q_blockN ?_ | refine q_blockR ?_ | refine aw_exit ?_ | refine q_exit ?_ | refine q_blockE ?_ | refine q_blockX de_ ?_ | refine fin_r rfl ?_ | (refine w_req rfl ?_ ?_; · exact rq_F6) | (refine w_lk rfl ?_; refine ⟨_, lk_F6, ?_⟩) | refine w_look (l' := _ :: _) rfl rfl ?_ | refine w_look (l' := []) rfl rfl ?_ | refine w_req rfl ?_ ?_ | refine w_pick rfl (fun b => ?_) | refine l_call rfl (s1) ?_ | refine l_call rfl (s2) ?_ | refine l_call rfl (c0) ?_ | refine l_call rfl (s3) ?_ | refine l_call rfl (s5) ?_ | refine l_call rfl (c4) ?_ | refine aw_drw kr_ ?_ | refine d_cons ?_ | refine l_ok rfl ?_ | refine d_nil kr_ ?_ | refine d_y rfl ka ?_ | refine d_nT rfl ka ?_ | refine d_nF rfl ka ?_ | refine d_nU rfl ?_ | refine l_pT rfl ka rfl ?_ | refine l_pF rfl ka rfl ?_ | refine d_gT rfl (fun h => ?_) (fun h => ?_) | refine d_gF rfl (fun h => ?_) (fun h => ?_) | (refine l_req rfl ?_ ?_; · exact rq_F6) | (refine l_lk rfl ?_; refine ⟨_, lk_F6, ?_⟩) | refine l_look (l' := _ :: _) rfl rfl ?_ | refine l_look (l' := []) rfl rfl ?_ | refine l_req rfl ?_ ?_)
      rfl
theorem some5 (l : List UInt8) (hl : l.length ≤ 4294967296) (s : St) (g : StG s) {c d1 d2 : Cur} {id : ByteArray} (p : SPre l c d1 d2 id 5) : SRes l c s := by
  obtain ⟨s1, s2, hid, k2⟩ := p
  have hu := upAt_d g id
  have c0 := upAtS s id g.sm
  have s3 : AGood e.P 117 [curPA l l.length d2, .ro (.row 1 4 (nT [1, 3, 24, 30]))] (.int .i64 (([1, 3, 24, 30] : List Int).getD (bwX l d2 4).toNat 0)) [curPB (bwC l d2 4), .keep] := l1Int l rfl d2 [1, 3, 24, 30] (k := 4) rfl (by decide) k2 hl
  have hN : 0 ≤ ([1, 3, 24, 30] : List Int).getD (bwX l d2 4).toNat 0 ∧ ([1, 3, 24, 30] : List Int).getD (bwX l d2 4).toNat 0 ≤ 30 := getD4 (P := fun x => 0 ≤ x ∧ x ≤ 30) (by decide) (by decide) (by decide) (by decide) (by decide)
  have k3 : (bwC l d2 4).ok l := bwC_ok _ k2
  generalize bwC l d2 4 = d3 at s3 k3
  generalize ([1, 3, 24, 30] : List Int).getD (bwX l d2 4).toNat 0 = N at s3 hN
  have put : ∀ (n : Int) (d : Cur), n ≤ 30 → d.ok l → ∃ s' k', StG s' ∧ AGood e.P 147 [stR s, .ro (.str id), .ro (.int .i64 (((upAtM s id).getD zeroU).d.length : Int)), .ro (.row 1 n.toNat (bT (btX l d n.toNat)))] (.tup [stT s', .int .i64 k']) [keep5, .keep, .keep, .keep] := fun n d hn hd =>
    putUpS s g id hid _ (btX l d n.toNat) (btX_len _ _ _).symm (by rw [btX_len]; omega)
  unfold upTr at c0
  cases ho : (upAtM s id).isSome with
  | false =>
    rw [ho] at c0
    obtain ⟨s', k', g', c4⟩ := put N d3 hN.2 k3
    have s5 := l1Bytes l rfl d3 N (by omega) k3 hl
    refine ⟨s', btC l d3 N.toNat, btC_ok k3 _, g', forgetS (s := s) ?_⟩
    refine agood eok (fn := Try.f136) kr_ de_ rfl kr_ ok_F6 ok_F6 ?_
    repeat' (first | refine o_cons ?_ | refine w_ok rfl ?_ | refine w_call rfl (s1) ?_ | refine w_call rfl (s2) ?_ | refine w_call rfl (c0) ?_ | refine w_call rfl (s3) ?_ | refine w_call rfl (s5) ?_ | refine w_call rfl (c4) ?_ | refine o_nil ?_ | refine q_then ?_ | refine sq ?_ | refine aw_seq ?_ | refine aw_reg ?_ | refine w_pT rfl ka rfl ?_ | refine w_pF rfl ka rfl ?_ | refine o_y rfl ka ?_ | refine o_nT rfl ka ?_ | refine o_nF rfl ka ?_ | refine o_nU rfl ?_ | refine aw_cT rfl ka ?_ | refine aw_cF rfl ka ?_ | refine o_gT rfl (fun h => ?_) (fun h => ?_) | refine o_gF rfl (fun h => ?_) (fun h => ?_) | refine aw_cond rfl (fun h => ?_) (fun h => ?_) | refine aw_block ?_ | refine aw_skip ?_ | refine aw_ret ?_ | refine q_ret ?_ | refine q_blockN ?_ | refine q_blockR ?_ | refine aw_exit ?_ | refine q_exit ?_ | refine q_blockE ?_ | refine q_blockX de_ ?_ | refine fin_r rfl ?_ | (refine w_req rfl ?_ ?_; · exact rq_F6) | (refine w_lk rfl ?_; refine ⟨_, lk_F6, ?_⟩) | refine w_look (l' := _ :: _) rfl rfl ?_ | refine w_look (l' := []) rfl rfl ?_ | refine w_req rfl ?_ ?_ | refine w_pick rfl (fun b => ?_) | refine l_call rfl (s1) ?_ | refine l_call rfl (s2) ?_ | refine l_call rfl (c0) ?_ | refine l_call rfl (s3) ?_ | refine l_call rfl (s5) ?_ | refine l_call rfl (c4) ?_ | refine aw_drw kr_ ?_ | refine d_cons ?_ | refine l_ok rfl ?_ | refine d_nil kr_ ?_ | refine d_y rfl ka ?_ | refine d_nT rfl ka ?_ | refine d_nF rfl ka ?_ | refine d_nU rfl ?_ | refine l_pT rfl ka rfl ?_ | refine l_pF rfl ka rfl ?_ | refine d_gT rfl (fun h => ?_) (fun h => ?_) | refine d_gF rfl (fun h => ?_) (fun h => ?_) | (refine l_req rfl ?_ ?_; · exact rq_F6) | (refine l_lk rfl ?_; refine ⟨_, lk_F6, ?_⟩) | refine l_look (l' := _ :: _) rfl rfl ?_ | refine l_look (l' := []) rfl rfl ?_ | refine l_req rfl ?_ ?_)
    rfl
  | true =>
    rw [ho] at c0
    by_cases hq : N > IntKind.i64.wrap (((upAtM s id).getD zeroU).w - (((upAtM s id).getD zeroU).d.length : Int))
    · have k4 : decide (N > IntKind.i64.wrap (((upAtM s id).getD zeroU).w - (((upAtM s id).getD zeroU).d.length : Int))) = true := decide_eq_true hq
      have s4 := l1Once l rfl d3 5 k3 hl
      have k5 : (bwC l d3 5).ok l := bwC_ok _ k3
      generalize bwC l d3 5 = d4 at s4 k5
      cases hb : (bwX l d3 5 == 0) with
      | true =>
        rw [hb] at s4
        obtain ⟨s', k', g', c4⟩ := put N d4 hN.2 k5
        have s5 := l1Bytes l rfl d4 N (by omega) k5 hl
        refine ⟨s', btC l d4 N.toNat, btC_ok k5 _, g', forgetS (s := s) ?_⟩
        refine agood eok (fn := Try.f136) kr_ de_ rfl kr_ ok_F6 ok_F6 ?_
        repeat' (first | refine o_cons ?_ | refine w_ok rfl ?_ | refine w_call rfl (s1) ?_ | refine w_call rfl (s2) ?_ | refine w_call rfl (c0) ?_ | refine w_call rfl (s3) ?_ | refine w_call rfl (s4) ?_ | refine w_call rfl (s5) ?_ | refine w_call rfl (c4) ?_ | refine o_nil ?_ | refine q_then ?_ | refine sq ?_ | refine aw_seq ?_ | refine aw_reg ?_ | refine w_pT rfl ka rfl ?_ | refine w_pF rfl ka rfl ?_ | refine o_y rfl ka ?_ | refine o_nT rfl ka ?_ | refine o_nF rfl ka ?_ | refine o_nU rfl ?_ | refine aw_cT rfl ka ?_ | refine aw_cF rfl ka ?_ | refine o_gT rfl (fun h => ?_) (fun h => ?_) | refine o_gF rfl (fun h => ?_) (fun h => ?_) | refine aw_cond rfl (fun h => ?_) (fun h => ?_) | refine aw_block ?_ | refine aw_skip ?_ | refine aw_ret ?_ | refine q_ret ?_ | refine q_blockN ?_ | refine q_blockR ?_ | refine aw_exit ?_ | refine q_exit ?_ | refine q_blockE ?_ | refine q_blockX de_ ?_ | refine fin_r rfl ?_ | (refine w_req rfl ?_ ?_; · exact rq_F6) | (refine w_lk rfl ?_; refine ⟨_, lk_F6, ?_⟩) | refine w_look (l' := _ :: _) rfl rfl ?_ | refine w_look (l' := []) rfl rfl ?_ | refine w_req rfl ?_ ?_ | refine w_pick rfl (fun b => ?_) | refine l_call rfl (s1) ?_ | refine l_call rfl (s2) ?_ | refine l_call rfl (c0) ?_ | refine l_call rfl (s3) ?_ | refine l_call rfl (s4) ?_ | refine l_call rfl (s5) ?_ | refine l_call rfl (c4) ?_ | refine aw_drw kr_ ?_ | refine d_cons ?_ | refine l_ok rfl ?_ | refine d_nil kr_ ?_ | refine d_y rfl ka ?_ | refine d_nT rfl ka ?_ | refine d_nF rfl ka ?_ | refine d_nU rfl ?_ | refine l_pT rfl ka rfl ?_ | refine l_pF rfl ka rfl ?_ | refine d_gT rfl (fun h => ?_) (fun h => ?_) | refine d_gF rfl (fun h => ?_) (fun h => ?_) | (refine l_req rfl ?_ ?_; · exact rq_F6) | (refine l_lk rfl ?_; refine ⟨_, lk_F6, ?_⟩) | refine l_look (l' := _ :: _) rfl rfl ?_ | refine l_look (l' := []) rfl rfl ?_ | refine l_req rfl ?_ ?_)
        rfl
      | false =>
        rw [hb] at s4
        obtain ⟨s', k', g', c4⟩ := put (IntKind.i64.wrap (((upAtM s id).getD zeroU).w - (((upAtM s id).getD zeroU).d.length : Int))) d4 (by omega) k5
        have s5 := l1Bytes l rfl d4 (IntKind.i64.wrap (((upAtM s id).getD zeroU).w - (((upAtM s id).getD zeroU).d.length : Int))) (by omega) k5 hl
        refine ⟨s', btC l d4 (IntKind.i64.wrap (((upAtM s id).getD zeroU).w - (((upAtM s id).getD zeroU).d.length : Int))).toNat, btC_ok k5 _, g', forgetS (s := s) ?_⟩
        refine agood eok (fn := Try.f136) kr_ de_ rfl kr_ ok_F6 ok_F6 ?_
        repeat' (first | refine o_cons ?_ | refine w_ok rfl ?_ | refine w_call rfl (s1) ?_ | refine w_call rfl (s2) ?_ | refine w_call rfl (c0) ?_ | refine w_call rfl (s3) ?_ | refine w_call rfl (s4) ?_ | refine w_call rfl (s5) ?_ | refine w_call rfl (c4) ?_ | refine o_nil ?_ | refine q_then ?_ | refine sq ?_ | refine aw_seq ?_ | refine aw_reg ?_ | refine w_pT rfl ka rfl ?_ | refine w_pF rfl ka rfl ?_ | refine o_y rfl ka ?_ | refine o_nT rfl ka ?_ | refine o_nF rfl ka ?_ | refine o_nU rfl ?_ | refine aw_cT rfl ka ?_ | refine aw_cF rfl ka ?_ | refine o_gT rfl (fun h => ?_) (fun h => ?_) | refine o_gF rfl (fun h => ?_) (fun h => ?_) | refine aw_cond rfl (fun h => ?_) (fun h => ?_) | refine aw_block ?_ | refine aw_skip ?_ | refine aw_ret ?_ | refine q_ret ?_ | refine q_blockN ?_ | refine q_blockR ?_ | refine aw_exit ?_ | refine q_exit ?_ | refine q_blockE ?_ | refine q_blockX de_ ?_ | refine fin_r rfl ?_ | (refine w_req rfl ?_ ?_; · exact rq_F6) | (refine w_lk rfl ?_; refine ⟨_, lk_F6, ?_⟩) | refine w_look (l' := _ :: _) rfl rfl ?_ | refine w_look (l' := []) rfl rfl ?_ | refine w_req rfl ?_ ?_ | refine w_pick rfl (fun b => ?_) | refine l_call rfl (s1) ?_ | refine l_call rfl (s2) ?_ | refine l_call rfl (c0) ?_ | refine l_call rfl (s3) ?_ | refine l_call rfl (s4) ?_ | refine l_call rfl (s5) ?_ | refine l_call rfl (c4) ?_ | refine aw_drw kr_ ?_ | refine d_cons ?_ | refine l_ok rfl ?_ | refine d_nil kr_ ?_ | refine d_y rfl ka ?_ | refine d_nT rfl ka ?_ | refine d_nF rfl ka ?_ | refine d_nU rfl ?_ | refine l_pT rfl ka rfl ?_ | refine l_pF rfl ka rfl ?_ | refine d_gT rfl (fun h => ?_) (fun h => ?_) | refine d_gF rfl (fun h => ?_) (fun h => ?_) | (refine l_req rfl ?_ ?_; · exact rq_F6) | (refine l_lk rfl ?_; refine ⟨_, lk_F6, ?_⟩) | refine l_look (l' := _ :: _) rfl rfl ?_ | refine l_look (l' := []) rfl rfl ?_ | refine l_req rfl ?_ ?_)
        rfl
    · have k4 : decide (N > IntKind.i64.wrap (((upAtM s id).getD zeroU).w - (((upAtM s id).getD zeroU).d.length : Int))) = false := decide_eq_false hq
      obtain ⟨s', k', g', c4⟩ := put N d3 hN.2 k3
      have s5 := l1Bytes l rfl d3 N (by omega) k3 hl
      refine ⟨s', btC l d3 N.toNat, btC_ok k3 _, g', forgetS (s := s) ?_⟩
      refine agood eok (fn := Try.f136) kr_ de_ rfl kr_ ok_F6 ok_F6 ?_
      repeat' (first | refine o_cons ?_ | refine w_ok rfl ?_ | refine w_call rfl (s1) ?_ | refine w_call rfl (s2) ?_ | refine w_call rfl (c0) ?_ | refine w_call rfl (s3) ?_ | refine w_call rfl (s5) ?_ | refine w_call rfl (c4) ?_ | refine o_nil ?_ | refine q_then ?_ | refine sq ?_ | refine aw_seq ?_ | refine aw_reg ?_ | refine w_pT rfl ka rfl ?_ | refine w_pF rfl ka rfl ?_ | refine o_y rfl ka ?_ | refine o_nT rfl ka ?_ | refine o_nF rfl ka ?_ | refine o_nU rfl ?_ | refine aw_cT rfl ka ?_ | refine aw_cF rfl ka ?_ | refine o_gT rfl (fun h => ?_) (fun h => ?_) | refine o_gF rfl (fun h => ?_) (fun h => ?_) | refine aw_cond rfl (fun h => ?_) (fun h => ?_) | refine aw_block ?_ | refine aw_skip ?_ | refine aw_ret ?_ | refine q_ret ?_ | refine q_blockN ?_ | refine q_blockR ?_ | refine aw_exit ?_ | refine q_exit ?_ | refine q_blockE ?_ | refine q_blockX de_ ?_ | refine fin_r rfl ?_ | (refine w_req rfl ?_ ?_; · exact rq_F6) | (refine w_lk rfl ?_; refine ⟨_, lk_F6, ?_⟩) | refine w_look (l' := _ :: _) rfl rfl ?_ | refine w_look (l' := []) rfl rfl ?_ | refine w_req rfl ?_ ?_ | refine w_pick rfl (fun b => ?_) | refine l_call rfl (s1) ?_ | refine l_call rfl (s2) ?_ | refine l_call rfl (c0) ?_ | refine l_call rfl (s3) ?_ | refine l_call rfl (s5) ?_ | refine l_call rfl (c4) ?_ | refine aw_drw kr_ ?_ | refine d_cons ?_ | refine l_ok rfl ?_ | refine d_nil kr_ ?_ | refine d_y rfl ka ?_ | refine d_nT rfl ka ?_ | refine d_nF rfl ka ?_ | refine d_nU rfl ?_ | refine l_pT rfl ka rfl ?_ | refine l_pF rfl ka rfl ?_ | refine d_gT rfl (fun h => ?_) (fun h => ?_) | refine d_gF rfl (fun h => ?_) (fun h => ?_) | (refine l_req rfl ?_ ?_; · exact rq_F6) | (refine l_lk rfl ?_; refine ⟨_, lk_F6, ?_⟩) | refine l_look (l' := _ :: _) rfl rfl ?_ | refine l_look (l' := []) rfl rfl ?_ | refine l_req rfl ?_ ?_)
      rfl
end Go.Proofs.Ytbkpmljdmlhmhaa
