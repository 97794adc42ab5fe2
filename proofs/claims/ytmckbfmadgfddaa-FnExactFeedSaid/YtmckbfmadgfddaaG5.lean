import Derived.Test.YtmckbfmadgfddaaG4
import Derived.Test.YtmckbfmadgfddaaG7
import Derived.Test.YtmckbfmadgfddaaMD
namespace Go.Proofs.Ytmckbfmadgfddaa
open Go Go.AM Ty
set_option maxRecDepth 100000
set_option maxHeartbeats 4000000
set_option linter.unusedVariables false
set_option linter.unusedSimpArgs false
attribute [local irreducible] aw aops aopsD wpo wpoL condW guardW thenQ blockQ finQ Le AGood
theorem opensBytes : Go.AM.Opens Try.prog 22 (fun l : List UInt8 => [.row 1 l.length (bT l)]) (bdL bdAny) :=
  (Go.AM.opens_slice (sz := 1) Try.underlying22 (by kernel_rfl) (fun _ => rfl) (by decide) (fun a => by simp [cells1, Tr.cellB]) (Go.AM.opens_u8 Try.underlying5)).as id (fun l => by simp only [id]; rw [fm_one (f := fun b : UInt8 => Tr.int .u8 (b.toNat : Int))]) (fun _ h => h)
theorem opens24 : Go.AM.Opens Try.prog 24 (fun x : Gt => [.int .i64 x.t, .bool x.f, .row 1 x.d.length (bT x.d)]) (fun x => x.d.length ≤ 9223372036854775807) :=
  (opens_struct (N := 3) Try.underlying24 (by kernel_rfl) (opensF_cons (off := 0) (sz := 1) rfl (by kernel_rfl) (Go.AM.opens_i64 Try.underlying3) (opensF_cons (off := 1) (sz := 1) rfl (by kernel_rfl) (Go.AM.opens_bool Try.underlying4) (opensF_cons (off := 2) (sz := 1) rfl (by kernel_rfl) opensBytes opensF_nil)))).as (fun p => (⟨p.1, p.2.1, p.2.2.1⟩ : Gt)) (fun _ => rfl) (fun p h => h.2.2.1.1)
theorem opens24_1 (x : Gt) : cells1 [Tr.int .i64 x.t, .bool x.f, .row 1 x.d.length (bT x.d)] := by simp [cells1, Tr.cellB]
theorem opens26 : Go.AM.Opens Try.prog 26 (fun x : Fm => [.int .i64 x.k, .int .i64 x.g, .int .i64 x.t, .row 1 x.d.length (bT x.d)]) (fun x => x.d.length ≤ 9223372036854775807) :=
  (opens_struct (N := 4) Try.underlying26 (by kernel_rfl) (opensF_cons (off := 0) (sz := 1) rfl (by kernel_rfl) (Go.AM.opens_i64 Try.underlying3) (opensF_cons (off := 1) (sz := 1) rfl (by kernel_rfl) (Go.AM.opens_i64 Try.underlying3) (opensF_cons (off := 2) (sz := 1) rfl (by kernel_rfl) (Go.AM.opens_i64 Try.underlying3) (opensF_cons (off := 3) (sz := 1) rfl (by kernel_rfl) opensBytes opensF_nil))))).as (fun p => (⟨p.1, p.2.1, p.2.2.1, p.2.2.2.1⟩ : Fm)) (fun _ => rfl) (fun p h => h.2.2.2.1.1)
theorem opens26_1 (x : Fm) : cells1 [Tr.int .i64 x.k, .int .i64 x.g, .int .i64 x.t, .row 1 x.d.length (bT x.d)] := by simp [cells1, Tr.cellB]
attribute [local irreducible] feedM szB
theorem szB_ok {l : List UInt8} {left : Int} (h : 0 ≤ szB left l) : szB left l = left - l.length ∧ (l.length : Int) ≤ left := by
  unfold szB at h ⊢
  split at h
  · omega
  · rename_i h1; rw [if_neg h1]; omega
theorem law_FnExactFeed (x : Gt) (hx : x.d.length ≤ 9223372036854775807) (y : Fm) (hy : y.d.length ≤ 9223372036854775807) : AGood e.P 3 [x.pa x.d.length, y.pa y.d.length] (.bool true) [kp3, kp4] := by
  have c1 := szGather x rfl 1048576 (by decide) hx
  rcases Int.lt_or_le (szB 1048576 x.d) 0 with h | h
  · have k1 : decide (szB 1048576 x.d < 0) = true := decide_eq_true h
    refine agood eok (fn := Try.f3) kr_ de_ rfl kr_ ok_ ok_ ?_
    repeat' (first | refine o_cons ?_ | refine w_ok rfl ?_ | refine w_call rfl (c1) ?_ | refine o_nil ?_ | refine q_then ?_ | refine sq ?_ | refine aw_seq ?_ | refine aw_reg ?_ | refine w_pT rfl ka rfl ?_ | refine w_pF rfl ka rfl ?_ | refine o_y rfl ka ?_ | refine o_nT rfl ka ?_ | refine o_nF rfl ka ?_ | refine o_nU rfl ?_ | refine aw_cT rfl ka ?_ | refine aw_cF rfl ka ?_ | refine o_gT rfl (fun h => ?_) (fun h => ?_) | refine o_gF rfl (fun h => ?_) (fun h => ?_) | refine aw_cond rfl (fun h => ?_) (fun h => ?_) | refine aw_block ?_ | refine aw_skip ?_ | refine aw_ret ?_ | refine q_ret ?_ | refine q_blockN ?_ | refine q_blockR ?_ | refine aw_exit ?_ | refine q_exit ?_ | refine q_blockE ?_ | refine q_blockX de_ ?_ | refine fin_r rfl ?_ | (refine w_req rfl ?_ ?_; · exact rq_) | (refine w_lk rfl ?_; refine ⟨_, lk_, ?_⟩) | refine w_look (l' := _ :: _) rfl rfl ?_ | refine w_look (l' := []) rfl rfl ?_ | refine w_req rfl ?_ ?_ | refine w_pick rfl (fun b => ?_) | refine l_call rfl (c1) ?_ | refine aw_drw kr_ ?_ | refine d_cons ?_ | refine l_ok rfl ?_ | refine d_nil kr_ ?_ | refine d_y rfl ka ?_ | refine d_nT rfl ka ?_ | refine d_nF rfl ka ?_ | refine d_nU rfl ?_ | refine l_pT rfl ka rfl ?_ | refine l_pF rfl ka rfl ?_ | refine d_gT rfl (fun h => ?_) (fun h => ?_) | refine d_gF rfl (fun h => ?_) (fun h => ?_) | (refine l_req rfl ?_ ?_; · exact rq_) | (refine l_lk rfl ?_; refine ⟨_, lk_, ?_⟩) | refine l_look (l' := _ :: _) rfl rfl ?_ | refine l_look (l' := []) rfl rfl ?_ | refine l_req rfl ?_ ?_)
    rfl
  · have k1 : decide (szB 1048576 x.d < 0) = false := decide_eq_false (by omega)
    obtain ⟨e1, h1⟩ := szB_ok h
    have c2 := szFrame y rfl (szB 1048576 x.d) (by omega) hy
    rcases Int.lt_or_le (szB (szB 1048576 x.d) y.d) 0 with h2 | h2
    · have k2 : decide (szB (szB 1048576 x.d) y.d < 0) = true := decide_eq_true h2
      refine agood eok (fn := Try.f3) kr_ de_ rfl kr_ ok_ ok_ ?_
      repeat' (first | refine o_cons ?_ | refine w_ok rfl ?_ | refine w_call rfl (c1) ?_ | refine w_call rfl (c2) ?_ | refine o_nil ?_ | refine q_then ?_ | refine sq ?_ | refine aw_seq ?_ | refine aw_reg ?_ | refine w_pT rfl ka rfl ?_ | refine w_pF rfl ka rfl ?_ | refine o_y rfl ka ?_ | refine o_nT rfl ka ?_ | refine o_nF rfl ka ?_ | refine o_nU rfl ?_ | refine aw_cT rfl ka ?_ | refine aw_cF rfl ka ?_ | refine o_gT rfl (fun h => ?_) (fun h => ?_) | refine o_gF rfl (fun h => ?_) (fun h => ?_) | refine aw_cond rfl (fun h => ?_) (fun h => ?_) | refine aw_block ?_ | refine aw_skip ?_ | refine aw_ret ?_ | refine q_ret ?_ | refine q_blockN ?_ | refine q_blockR ?_ | refine aw_exit ?_ | refine q_exit ?_ | refine q_blockE ?_ | refine q_blockX de_ ?_ | refine fin_r rfl ?_ | (refine w_req rfl ?_ ?_; · exact rq_) | (refine w_lk rfl ?_; refine ⟨_, lk_, ?_⟩) | refine w_look (l' := _ :: _) rfl rfl ?_ | refine w_look (l' := []) rfl rfl ?_ | refine w_req rfl ?_ ?_ | refine w_pick rfl (fun b => ?_) | refine l_call rfl (c1) ?_ | refine l_call rfl (c2) ?_ | refine aw_drw kr_ ?_ | refine d_cons ?_ | refine l_ok rfl ?_ | refine d_nil kr_ ?_ | refine d_y rfl ka ?_ | refine d_nT rfl ka ?_ | refine d_nF rfl ka ?_ | refine d_nU rfl ?_ | refine l_pT rfl ka rfl ?_ | refine l_pF rfl ka rfl ?_ | refine d_gT rfl (fun h => ?_) (fun h => ?_) | refine d_gF rfl (fun h => ?_) (fun h => ?_) | (refine l_req rfl ?_ ?_; · exact rq_) | (refine l_lk rfl ?_; refine ⟨_, lk_, ?_⟩) | refine l_look (l' := _ :: _) rfl rfl ?_ | refine l_look (l' := []) rfl rfl ?_ | refine l_req rfl ?_ ?_)
      rfl
    · have k2 : decide (szB (szB 1048576 x.d) y.d < 0) = false := decide_eq_false (by omega)
      obtain ⟨e2, h3⟩ := szB_ok h2
      have c3 := toGather x rfl (by omega)
      have c4 := toFrame y rfl (by omega)
      have c5 := feedS x y rfl rfl (by omega) (by omega)
      have c6 := feedI x y rfl rfl (by omega) (by omega)
      obtain ⟨b1, b2⟩ := feedM_len x y
      generalize feedM x y = p at *
      obtain ⟨o, d, k⟩ := p
      unfold feedT at c5 c6
      simp only at c5 c6 b1 b2
      have c7 := eqGather o rfl rfl (by omega)
      have c8 := eqByteS d rfl rfl (by omega)
      have c9 := eqGather x rfl rfl (by omega)
      have c10 := eqFrame y rfl rfl (by omega)
      have c11 := markGather x rfl 1 (by decide) (by omega)
      have c12 := markFrame y rfl (1 + x.d.length) (by omega) (by omega)
      have c13 := markGather o rfl 1 (by decide) (by omega)
      have c14 := markByteS d rfl (1 + o.d.length) (by omega) (by omega)
      have c15 := heldGather o.t o.f 1 o.d.length (by decide) (by omega)
      have c16 := heldByteS (1 + o.d.length) d.length (by omega) (by omega)
      have q1 : decide ((1 : Int) + x.d.length + y.d.length < 0) = false := decide_eq_false (by omega)
      have q2 : decide ((1 : Int) + o.d.length < 0) = false := decide_eq_false (by omega)
      have q3 : decide ((1 : Int) + o.d.length + d.length < 0) = false := decide_eq_false (by omega)
      have kb : (k != k) = false := by simp
      refine agood eok (fn := Try.f3) kr_ de_ rfl kr_ ok_ ok_ ?_
      repeat' (first | refine o_cons ?_ | refine w_ok rfl ?_ | refine w_call rfl (c1) ?_ | refine w_call rfl (c2) ?_ | refine w_call rfl (c3) ?_ | refine w_call rfl (c4) ?_ | refine w_call rfl (c5) ?_ | refine w_call rfl (c6) ?_ | refine w_call rfl (c7) ?_ | refine w_call rfl (c8) ?_ | refine w_call rfl (c9) ?_ | refine w_call rfl (c10) ?_ | refine w_call rfl (c11) ?_ | refine w_call rfl (c12) ?_ | refine w_call rfl (c13) ?_ | refine w_call rfl (c14) ?_ | refine w_call rfl (c15) ?_ | refine w_call rfl (c16) ?_ | refine o_nil ?_ | refine q_then ?_ | refine sq ?_ | refine aw_seq ?_ | refine aw_reg ?_ | refine w_pT rfl ka rfl ?_ | refine w_pF rfl ka rfl ?_ | refine o_y rfl ka ?_ | refine o_nT rfl ka ?_ | refine o_nF rfl ka ?_ | refine o_nU rfl ?_ | refine aw_cT rfl ka ?_ | refine aw_cF rfl ka ?_ | refine o_gT rfl (fun h => ?_) (fun h => ?_) | refine o_gF rfl (fun h => ?_) (fun h => ?_) | refine aw_cond rfl (fun h => ?_) (fun h => ?_) | refine aw_block ?_ | refine aw_skip ?_ | refine aw_ret ?_ | refine q_ret ?_ | refine q_blockN ?_ | refine q_blockR ?_ | refine aw_exit ?_ | refine q_exit ?_ | refine q_blockE ?_ | refine q_blockX de_ ?_ | refine fin_r rfl ?_ | (refine w_req rfl ?_ ?_; · exact rq_) | (refine w_lk rfl ?_; refine ⟨_, lk_, ?_⟩) | refine w_look (l' := _ :: _) rfl rfl ?_ | refine w_look (l' := []) rfl rfl ?_ | refine w_req rfl ?_ ?_ | refine w_pick rfl (fun b => ?_) | refine l_call rfl (c1) ?_ | refine l_call rfl (c2) ?_ | refine l_call rfl (c3) ?_ | refine l_call rfl (c4) ?_ | refine l_call rfl (c5) ?_ | refine l_call rfl (c6) ?_ | refine l_call rfl (c7) ?_ | refine l_call rfl (c8) ?_ | refine l_call rfl (c9) ?_ | refine l_call rfl (c10) ?_ | refine l_call rfl (c11) ?_ | refine l_call rfl (c12) ?_ | refine l_call rfl (c13) ?_ | refine l_call rfl (c14) ?_ | refine l_call rfl (c15) ?_ | refine l_call rfl (c16) ?_ | refine aw_drw kr_ ?_ | refine d_cons ?_ | refine l_ok rfl ?_ | refine d_nil kr_ ?_ | refine d_y rfl ka ?_ | refine d_nT rfl ka ?_ | refine d_nF rfl ka ?_ | refine d_nU rfl ?_ | refine l_pT rfl ka rfl ?_ | refine l_pF rfl ka rfl ?_ | refine d_gT rfl (fun h => ?_) (fun h => ?_) | refine d_gF rfl (fun h => ?_) (fun h => ?_) | (refine l_req rfl ?_ ?_; · exact rq_) | (refine l_lk rfl ?_; refine ⟨_, lk_, ?_⟩) | refine l_look (l' := _ :: _) rfl rfl ?_ | refine l_look (l' := []) rfl rfl ?_ | refine l_req rfl ?_ ?_)
      all_goals first | rfl | (exfalso; simp at h)
end Go.Proofs.Ytmckbfmadgfddaa
