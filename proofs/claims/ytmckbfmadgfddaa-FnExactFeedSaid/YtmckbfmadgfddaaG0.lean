import Derived.Test.YtmckbfmadgfddaaTy
import Derived.Test.YtmckbfmadgfddaaMD
namespace Go.Proofs.Ytmckbfmadgfddaa
open Go Go.AM Ty
set_option maxRecDepth 100000
set_option maxHeartbeats 4000000
set_option linter.unusedVariables false
set_option linter.unusedSimpArgs false
attribute [local irreducible] aw aops aopsD wpo wpoL condW guardW thenQ blockQ finQ Le AGood
theorem lk_G0 {p : Prop} (h : p := by first | exact bT_app _ _ | exact mp_el (f := fun b : UInt8 => Tr.int .u8 (b.toNat : Int)) 0 side_ | exact mp_up (f := fun b : UInt8 => Tr.int .u8 (b.toNat : Int)) side_ | exact zeros_b _ | exact lk_) : p := h
def md (f : Nat) : List Hn := bif [15, 13, 14].contains f then [.own] else []
noncomputable def e : Env := ⟨Try.prog, τ, md⟩
theorem eok : EnvOk e := ⟨Ty.ok, Try.checked.mixed⟩
theorem inRange (n lo hi : Int) : AGood e.P 33 [.ro (.int .i64 n), .ro (.int .i64 lo), .ro (.int .i64 hi)] (.bool (decide (lo ≤ n) && decide (n ≤ hi))) [.keep, .keep, .keep] := by
  refine agood eok (fn := Try.f33) kr_ de_ rfl kr_ ok_ ok_ ?_
  repeat' (first | refine o_cons ?_ | refine w_ok rfl ?_ | refine o_nil ?_ | refine q_then ?_ | refine sq ?_ | refine aw_seq ?_ | refine aw_reg ?_ | refine w_pT rfl ka rfl ?_ | refine w_pF rfl ka rfl ?_ | refine o_y rfl ka ?_ | refine o_nT rfl ka ?_ | refine o_nF rfl ka ?_ | refine o_nU rfl ?_ | refine aw_cT rfl ka ?_ | refine aw_cF rfl ka ?_ | refine o_gT rfl (fun h => ?_) (fun h => ?_) | refine o_gF rfl (fun h => ?_) (fun h => ?_) | refine aw_cond rfl (fun h => ?_) (fun h => ?_) | refine aw_block ?_ | refine aw_skip ?_ | refine aw_ret ?_ | refine q_ret ?_ | refine q_blockN ?_ | refine q_blockR ?_ | refine aw_exit ?_ | refine q_exit ?_ | refine q_blockE ?_ | refine q_blockX de_ ?_ | refine fin_r rfl ?_ | (refine w_req rfl ?_ ?_; · exact rq_) | (refine w_lk rfl ?_; refine ⟨_, lk_G0, ?_⟩) | refine w_look (l' := _ :: _) rfl rfl ?_ | refine w_look (l' := []) rfl rfl ?_ | refine w_req rfl ?_ ?_ | refine w_pick rfl (fun b => ?_))
  all_goals simp_all
  all_goals (intros; omega)
theorem inRangeS (n lo hi : Int) : AGood e.P 30 [.ro (.int .i64 n), .ro (.int .i64 lo), .ro (.int .i64 hi)] (.bool (decide (lo ≤ n) && decide (n ≤ hi))) [.keep, .keep, .keep] := by
  refine agood eok (fn := Try.f30) kr_ de_ rfl kr_ ok_ ok_ ?_
  repeat' (first | refine o_cons ?_ | refine w_ok rfl ?_ | refine o_nil ?_ | refine q_then ?_ | refine sq ?_ | refine aw_seq ?_ | refine aw_reg ?_ | refine w_pT rfl ka rfl ?_ | refine w_pF rfl ka rfl ?_ | refine o_y rfl ka ?_ | refine o_nT rfl ka ?_ | refine o_nF rfl ka ?_ | refine o_nU rfl ?_ | refine aw_cT rfl ka ?_ | refine aw_cF rfl ka ?_ | refine o_gT rfl (fun h => ?_) (fun h => ?_) | refine o_gF rfl (fun h => ?_) (fun h => ?_) | refine aw_cond rfl (fun h => ?_) (fun h => ?_) | refine aw_block ?_ | refine aw_skip ?_ | refine aw_ret ?_ | refine q_ret ?_ | refine q_blockN ?_ | refine q_blockR ?_ | refine aw_exit ?_ | refine q_exit ?_ | refine q_blockE ?_ | refine q_blockX de_ ?_ | refine fin_r rfl ?_ | (refine w_req rfl ?_ ?_; · exact rq_) | (refine w_lk rfl ?_; refine ⟨_, lk_G0, ?_⟩) | refine w_look (l' := _ :: _) rfl rfl ?_ | refine w_look (l' := []) rfl rfl ?_ | refine w_req rfl ?_ ?_ | refine w_pick rfl (fun b => ?_))
  all_goals simp_all
  all_goals (intros; omega)
theorem eqByteS (l : List UInt8) {n m : Nat} (hn : n = l.length) (hm : m = l.length) (hl : l.length ≤ 4294967296) : AGood e.P 11 [.ro (.row 1 n (bT l)), .ro (.row 1 m (bT l))] (.bool true) [.keep, .keep] := by
  subst hn; subst hm
  refine agood eok (fn := Try.f11) kr_ de_ rfl kr_ ok_ ok_ ?_
  repeat' (first | refine o_cons ?_ | refine w_ok rfl ?_ | refine o_nil ?_ | refine q_then ?_ | refine sq ?_ | refine aw_seq ?_ | refine aw_reg ?_ | refine w_pT rfl ka rfl ?_ | refine w_pF rfl ka rfl ?_ | refine o_y rfl ka ?_ | refine o_nT rfl ka ?_ | refine o_nF rfl ka ?_ | refine o_nU rfl ?_ | refine aw_cT rfl ka ?_ | refine aw_cF rfl ka ?_ | refine o_gT rfl (fun h => ?_) (fun h => ?_) | refine o_gF rfl (fun h => ?_) (fun h => ?_) | refine aw_cond rfl (fun h => ?_) (fun h => ?_) | refine aw_block ?_ | refine aw_skip ?_ | refine aw_ret ?_ | refine q_ret ?_ | refine q_blockN ?_ | refine q_blockR ?_ | refine aw_exit ?_ | refine q_exit ?_ | refine q_blockE ?_ | refine q_blockX de_ ?_ | refine fin_r rfl ?_ | (refine w_req rfl ?_ ?_; · exact rq_) | (refine w_lk rfl ?_; refine ⟨_, lk_G0, ?_⟩) | refine w_look (l' := _ :: _) rfl rfl ?_ | refine w_look (l' := []) rfl rfl ?_ | refine w_req rfl ?_ ?_ | refine w_pick rfl (fun b => ?_))
  · simp at h
  refine loop1 (fun i : Nat => ⟨tbl [(0, .ro none 1 l.length (bT l)), (1, .ro none 1 l.length (bT l)), (5, .int .i64 i)], mbl [], [.ro (some 0) 1 l.length (bT l), .ro (some 1) 1 l.length (bT l)]⟩) (fun i => i ≤ l.length) (fun i => l.length - i) 0 (Nat.zero_le _) ?_ ?_
  · (refine le_of [] ?_; repeat' (first | exact trivial | refine an ?_ ?_ | with_reducible rfl | exact bt rfl | exact Or.inl rfl | exact Or.inr rfl | exact Eq.refl _))
  intro i hi
  repeat' (first | refine o_cons ?_ | refine w_ok rfl ?_ | refine o_nil ?_ | refine q_then ?_ | refine sq ?_ | refine aw_seq ?_ | refine aw_reg ?_ | refine w_pT rfl ka rfl ?_ | refine w_pF rfl ka rfl ?_ | refine o_y rfl ka ?_ | refine o_nT rfl ka ?_ | refine o_nF rfl ka ?_ | refine o_nU rfl ?_ | refine aw_cT rfl ka ?_ | refine aw_cF rfl ka ?_ | refine o_gT rfl (fun h => ?_) (fun h => ?_) | refine o_gF rfl (fun h => ?_) (fun h => ?_) | refine aw_cond rfl (fun h => ?_) (fun h => ?_) | refine aw_block ?_ | refine aw_skip ?_ | refine aw_ret ?_ | refine q_ret ?_ | refine q_blockN ?_ | refine q_blockR ?_ | refine aw_exit ?_ | refine q_exit ?_ | refine q_blockE ?_ | refine q_blockX de_ ?_ | refine fin_r rfl ?_ | (refine w_req rfl ?_ ?_; · exact rq_) | (refine w_lk rfl ?_; refine ⟨_, lk_G0, ?_⟩) | refine w_look (l' := _ :: _) rfl rfl ?_ | refine w_look (l' := []) rfl rfl ?_ | refine w_req rfl ?_ ?_ | refine w_pick rfl (fun b => ?_) | refine aw_drw kr_ ?_ | refine d_cons ?_ | refine l_ok rfl ?_ | refine d_nil kr_ ?_ | refine d_y rfl ka ?_ | refine d_nT rfl ka ?_ | refine d_nF rfl ka ?_ | refine d_nU rfl ?_ | refine l_pT rfl ka rfl ?_ | refine l_pF rfl ka rfl ?_ | refine d_gT rfl (fun h => ?_) (fun h => ?_) | refine d_gF rfl (fun h => ?_) (fun h => ?_) | (refine l_req rfl ?_ ?_; · exact rq_) | (refine l_lk rfl ?_; refine ⟨_, lk_G0, ?_⟩) | refine l_look (l' := _ :: _) rfl rfl ?_ | refine l_look (l' := []) rfl rfl ?_ | refine l_req rfl ?_ ?_)
  · simp at h
  · refine ⟨i + 1, ⟨by (exact side_), by (exact side_)⟩, ?_⟩
    (refine le_of [] ?_; repeat' (first | exact trivial | refine an ?_ ?_ | with_reducible rfl | exact bt rfl | exact Or.inl rfl | exact Or.inr rfl | exact Eq.refl _))
    first | omega | (simp; done) | (rw [wrap64] <;> omega) | (simp; omega)
  · rfl
theorem markByteS (l : List UInt8) {n : Nat} (hn : n = l.length) (k : Int) (hk : 0 ≤ k ∧ k ≤ 1099511627776) (hl : l.length ≤ 4294967296) : AGood e.P 15 [.own (.row 1 n (bT l)), .ro (.int .i64 k)] (.int .i64 (k + n)) [.own (.row 1 n (bT (markL k n))), .keep] := by
  subst hn
  refine agood eok (fn := Try.f15) kr_ de_ rfl kr_ ok_ ok_ ?_
  repeat' (first | refine o_cons ?_ | refine w_ok rfl ?_ | refine o_nil ?_ | refine q_then ?_ | refine sq ?_ | refine aw_seq ?_ | refine aw_reg ?_ | refine w_pT rfl ka rfl ?_ | refine w_pF rfl ka rfl ?_ | refine o_y rfl ka ?_ | refine o_nT rfl ka ?_ | refine o_nF rfl ka ?_ | refine o_nU rfl ?_ | refine aw_cT rfl ka ?_ | refine aw_cF rfl ka ?_ | refine o_gT rfl (fun h => ?_) (fun h => ?_) | refine o_gF rfl (fun h => ?_) (fun h => ?_) | refine aw_cond rfl (fun h => ?_) (fun h => ?_) | refine aw_block ?_ | refine aw_skip ?_ | refine aw_ret ?_ | refine q_ret ?_ | refine q_blockN ?_ | refine q_blockR ?_ | refine aw_exit ?_ | refine q_exit ?_ | refine q_blockE ?_ | refine q_blockX de_ ?_ | refine fin_r rfl ?_ | (refine w_req rfl ?_ ?_; · exact rq_) | (refine w_lk rfl ?_; refine ⟨_, lk_G0, ?_⟩) | refine w_look (l' := _ :: _) rfl rfl ?_ | refine w_look (l' := []) rfl rfl ?_ | refine w_req rfl ?_ ?_ | refine w_pick rfl (fun b => ?_))
  refine loop1 (fun i : Nat => ⟨tbl [(0, .own 0 0), (1, .int .i64 (k + i)), (5, .int .i64 i)], mbl [(0, .row 0 0 1 l.length (bT (markL k i ++ l.drop i)))], [.own 0 0, .int .i64 k]⟩) (fun i => i ≤ l.length) (fun i => l.length - i) 0 (Nat.zero_le _) ?_ ?_
  · (refine le_of [(0, 0)] ?_; repeat' (first | exact trivial | refine an ?_ ?_ | with_reducible rfl | exact bt rfl | exact Or.inl rfl | exact Or.inr rfl | exact Eq.refl _))
    first | omega | (simp; done) | (rw [wrap64] <;> omega) | (simp; omega)
  intro i hi
  have hlen : (markL k i ++ l.drop i).length = l.length := by rw [List.length_append, markL_len, List.length_drop]; omega
  repeat' (first | refine o_cons ?_ | refine w_ok rfl ?_ | refine o_nil ?_ | refine q_then ?_ | refine sq ?_ | refine aw_seq ?_ | refine aw_reg ?_ | refine w_pT rfl ka rfl ?_ | refine w_pF rfl ka rfl ?_ | refine o_y rfl ka ?_ | refine o_nT rfl ka ?_ | refine o_nF rfl ka ?_ | refine o_nU rfl ?_ | refine aw_cT rfl ka ?_ | refine aw_cF rfl ka ?_ | refine o_gT rfl (fun h => ?_) (fun h => ?_) | refine o_gF rfl (fun h => ?_) (fun h => ?_) | refine aw_cond rfl (fun h => ?_) (fun h => ?_) | refine aw_block ?_ | refine aw_skip ?_ | refine aw_ret ?_ | refine q_ret ?_ | refine q_blockN ?_ | refine q_blockR ?_ | refine aw_exit ?_ | refine q_exit ?_ | refine q_blockE ?_ | refine q_blockX de_ ?_ | refine fin_r rfl ?_ | (refine w_req rfl ?_ ?_; · exact rq_) | (refine w_lk rfl ?_; refine ⟨_, lk_G0, ?_⟩) | refine w_look (l' := _ :: _) rfl rfl ?_ | refine w_look (l' := []) rfl rfl ?_ | refine w_req rfl ?_ ?_ | refine w_pick rfl (fun b => ?_))
  · have hil : i < l.length := by (exact side_)
    refine ⟨i + 1, ⟨by omega, by omega⟩, ?_⟩
    (refine le_of [(0, 0)] ?_; repeat' (first | exact trivial | refine an ?_ ?_ | with_reducible rfl | exact bt rfl | exact Or.inl rfl | exact Or.inr rfl | exact Eq.refl _))
    all_goals first | exact congrArg bT (mark_step hil) | (rw [wrap64] <;> omega)
  · have : i = l.length := by (exact side_)
    subst this
    simp
theorem heldByteS (k : Int) (n : Nat) (hk : 0 ≤ k ∧ k ≤ 1099511627776) (hl : n ≤ 4294967296) : AGood e.P 17 [.ro (.row 1 n (bT (markL k n))), .ro (.int .i64 k)] (.int .i64 (k + n)) [.keep, .keep] := by
  refine agood eok (fn := Try.f17) kr_ de_ rfl kr_ ok_ ok_ ?_
  repeat' (first | refine o_cons ?_ | refine w_ok rfl ?_ | refine o_nil ?_ | refine q_then ?_ | refine sq ?_ | refine aw_seq ?_ | refine aw_reg ?_ | refine w_pT rfl ka rfl ?_ | refine w_pF rfl ka rfl ?_ | refine o_y rfl ka ?_ | refine o_nT rfl ka ?_ | refine o_nF rfl ka ?_ | refine o_nU rfl ?_ | refine aw_cT rfl ka ?_ | refine aw_cF rfl ka ?_ | refine o_gT rfl (fun h => ?_) (fun h => ?_) | refine o_gF rfl (fun h => ?_) (fun h => ?_) | refine aw_cond rfl (fun h => ?_) (fun h => ?_) | refine aw_block ?_ | refine aw_skip ?_ | refine aw_ret ?_ | refine q_ret ?_ | refine q_blockN ?_ | refine q_blockR ?_ | refine aw_exit ?_ | refine q_exit ?_ | refine q_blockE ?_ | refine q_blockX de_ ?_ | refine fin_r rfl ?_ | (refine w_req rfl ?_ ?_; · exact rq_) | (refine w_lk rfl ?_; refine ⟨_, lk_G0, ?_⟩) | refine w_look (l' := _ :: _) rfl rfl ?_ | refine w_look (l' := []) rfl rfl ?_ | refine w_req rfl ?_ ?_ | refine w_pick rfl (fun b => ?_))
  refine loop1 (fun i : Nat => ⟨tbl [(0, .ro none 1 n (bT (markL k n))), (1, .int .i64 (k + i)), (5, .int .i64 i)], mbl [], [.ro (some 0) 1 n (bT (markL k n)), .int .i64 k]⟩) (fun i => i ≤ n) (fun i => n - i) 0 (Nat.zero_le _) ?_ ?_
  · (refine le_of [] ?_; repeat' (first | exact trivial | refine an ?_ ?_ | with_reducible rfl | exact bt rfl | exact Or.inl rfl | exact Or.inr rfl | exact Eq.refl _))
    first | omega | (simp; done) | (rw [wrap64] <;> omega) | (simp; omega)
  intro i hi
  have hlen := markL_len k n
  repeat' (first | refine o_cons ?_ | refine w_ok rfl ?_ | refine o_nil ?_ | refine q_then ?_ | refine sq ?_ | refine aw_seq ?_ | refine aw_reg ?_ | refine w_pT rfl ka rfl ?_ | refine w_pF rfl ka rfl ?_ | refine o_y rfl ka ?_ | refine o_nT rfl ka ?_ | refine o_nF rfl ka ?_ | refine o_nU rfl ?_ | refine aw_cT rfl ka ?_ | refine aw_cF rfl ka ?_ | refine o_gT rfl (fun h => ?_) (fun h => ?_) | refine o_gF rfl (fun h => ?_) (fun h => ?_) | refine aw_cond rfl (fun h => ?_) (fun h => ?_) | refine aw_block ?_ | refine aw_skip ?_ | refine aw_ret ?_ | refine q_ret ?_ | refine q_blockN ?_ | refine q_blockR ?_ | refine aw_exit ?_ | refine q_exit ?_ | refine q_blockE ?_ | refine q_blockX de_ ?_ | refine fin_r rfl ?_ | (refine w_req rfl ?_ ?_; · exact rq_) | (refine w_lk rfl ?_; refine ⟨_, lk_G0, ?_⟩) | refine w_look (l' := _ :: _) rfl rfl ?_ | refine w_look (l' := []) rfl rfl ?_ | refine w_req rfl ?_ ?_ | refine w_pick rfl (fun b => ?_))
  · exfalso
    rename_i h0
    have hin : i < n := by (exact side_)
    have : (markL k n).getD (i : Int).toNat 0 = ub (k + (i : Int)) := markL_get (i := i) hin
    rw [this, wrap_ub] at h
    simp at h
  · rename_i h0
    have hin : i < n := by (exact side_)
    refine ⟨i + 1, ⟨by omega, by omega⟩, ?_⟩
    (refine le_of [] ?_; repeat' (first | exact trivial | refine an ?_ ?_ | with_reducible rfl | exact bt rfl | exact Or.inl rfl | exact Or.inr rfl | exact Eq.refl _))
    all_goals (rw [wrap64] <;> omega)
  · have : i = n := by (exact side_)
    subst this
    rfl
theorem toByteS (l : List UInt8) {n : Nat} (hn : n = l.length) (hl : l.length ≤ 1048576) : AGood e.P 23 [.ro (.row 1 n (bT l))] (.row 1 n (bT l)) [.keep] := by
  subst hn
  refine agood eok (fn := Try.f23) kr_ de_ rfl kr_ ok_ ok_ ?_
  repeat' (first | refine o_cons ?_ | refine w_ok rfl ?_ | refine o_nil ?_ | refine q_then ?_ | refine sq ?_ | refine aw_seq ?_ | refine aw_reg ?_ | refine w_pT rfl ka rfl ?_ | refine w_pF rfl ka rfl ?_ | refine o_y rfl ka ?_ | refine o_nT rfl ka ?_ | refine o_nF rfl ka ?_ | refine o_nU rfl ?_ | refine aw_cT rfl ka ?_ | refine aw_cF rfl ka ?_ | refine o_gT rfl (fun h => ?_) (fun h => ?_) | refine o_gF rfl (fun h => ?_) (fun h => ?_) | refine aw_cond rfl (fun h => ?_) (fun h => ?_) | refine aw_block ?_ | refine aw_skip ?_ | refine aw_ret ?_ | refine q_ret ?_ | refine q_blockN ?_ | refine q_blockR ?_ | refine aw_exit ?_ | refine q_exit ?_ | refine q_blockE ?_ | refine q_blockX de_ ?_ | refine fin_r rfl ?_ | (refine w_req rfl ?_ ?_; · exact rq_) | (refine w_lk rfl ?_; refine ⟨_, lk_G0, ?_⟩) | refine w_look (l' := _ :: _) rfl rfl ?_ | refine w_look (l' := []) rfl rfl ?_ | refine w_req rfl ?_ ?_ | refine w_pick rfl (fun b => ?_))
  refine loop1 (fun i : Nat => ⟨tbl [(0, .ro none 1 l.length (bT l)), (3, .own 8000 0), (4, .int .i64 i)], mbl [(8000, .row 0 0 1 l.length (bT (l.take i ++ List.replicate (l.length - i) 0)))], [.ro (some 0) 1 l.length (bT l)]⟩) (fun i => i ≤ l.length) (fun i => l.length - i) 0 (Nat.zero_le _) ?_ ?_
  · (refine le_of [(8000, 8000)] ?_; repeat' (first | exact trivial | refine an ?_ ?_ | with_reducible rfl | exact bt rfl | exact Or.inl rfl | exact Or.inr rfl | exact Eq.refl _))
    all_goals simp
  intro i hi
  have hlen : (l.take i ++ List.replicate (l.length - i) (0 : UInt8)).length = l.length := by simp; omega
  repeat' (first | refine o_cons ?_ | refine w_ok rfl ?_ | refine o_nil ?_ | refine q_then ?_ | refine sq ?_ | refine aw_seq ?_ | refine aw_reg ?_ | refine w_pT rfl ka rfl ?_ | refine w_pF rfl ka rfl ?_ | refine o_y rfl ka ?_ | refine o_nT rfl ka ?_ | refine o_nF rfl ka ?_ | refine o_nU rfl ?_ | refine aw_cT rfl ka ?_ | refine aw_cF rfl ka ?_ | refine o_gT rfl (fun h => ?_) (fun h => ?_) | refine o_gF rfl (fun h => ?_) (fun h => ?_) | refine aw_cond rfl (fun h => ?_) (fun h => ?_) | refine aw_block ?_ | refine aw_skip ?_ | refine aw_ret ?_ | refine q_ret ?_ | refine q_blockN ?_ | refine q_blockR ?_ | refine aw_exit ?_ | refine q_exit ?_ | refine q_blockE ?_ | refine q_blockX de_ ?_ | refine fin_r rfl ?_ | (refine w_req rfl ?_ ?_; · exact rq_) | (refine w_lk rfl ?_; refine ⟨_, lk_G0, ?_⟩) | refine w_look (l' := _ :: _) rfl rfl ?_ | refine w_look (l' := []) rfl rfl ?_ | refine w_req rfl ?_ ?_ | refine w_pick rfl (fun b => ?_))
  · have hil : i < l.length := by (exact side_)
    refine ⟨i + 1, ⟨by omega, by omega⟩, ?_⟩
    (refine le_of [(8000, 8000)] ?_; repeat' (first | exact trivial | refine an ?_ ?_ | with_reducible rfl | exact bt rfl | exact Or.inl rfl | exact Or.inr rfl | exact Eq.refl _))
    all_goals first | exact congrArg bT ((set_step (n := l.length) (z := (0 : UInt8)) hil).resolve_right (by omega)) | (first | omega | (simp; done) | (rw [wrap64] <;> omega) | (simp; omega))
  · have : i = l.length := by (exact side_)
    subst this
    simp
theorem szByteS (l : List UInt8) {n : Nat} (hn : n = l.length) (left : Int) (h0 : 0 ≤ left ∧ left ≤ 1048576) (hl : l.length ≤ 9223372036854775807) : AGood e.P 18 [.ro (.row 1 n (bT l)), .ro (.int .i64 left)] (.int .i64 (szB left l)) [.keep, .keep] := by
  subst hn
  have hw : IntKind.i64.wrap (left - (l.length : Int)) = left - (l.length : Int) := wrap64 (by omega) (by omega)
  refine agood eok (fn := Try.f18) kr_ de_ rfl kr_ ok_ ok_ ?_
  repeat' (first | refine o_cons ?_ | refine w_ok rfl ?_ | refine o_nil ?_ | refine q_then ?_ | refine sq ?_ | refine aw_seq ?_ | refine aw_reg ?_ | refine w_pT rfl ka rfl ?_ | refine w_pF rfl ka rfl ?_ | refine o_y rfl ka ?_ | refine o_nT rfl ka ?_ | refine o_nF rfl ka ?_ | refine o_nU rfl ?_ | refine aw_cT rfl ka ?_ | refine aw_cF rfl ka ?_ | refine o_gT rfl (fun h => ?_) (fun h => ?_) | refine o_gF rfl (fun h => ?_) (fun h => ?_) | refine aw_cond rfl (fun h => ?_) (fun h => ?_) | refine aw_block ?_ | refine aw_skip ?_ | refine aw_ret ?_ | refine q_ret ?_ | refine q_blockN ?_ | refine q_blockR ?_ | refine aw_exit ?_ | refine q_exit ?_ | refine q_blockE ?_ | refine q_blockX de_ ?_ | refine fin_r rfl ?_ | (refine w_req rfl ?_ ?_; · exact rq_) | (refine w_lk rfl ?_; refine ⟨_, lk_G0, ?_⟩) | refine w_look (l' := _ :: _) rfl rfl ?_ | refine w_look (l' := []) rfl rfl ?_ | refine w_req rfl ?_ ?_ | refine w_pick rfl (fun b => ?_))
  · unfold szB; rw [if_pos side_]
  · unfold szB; rw [if_neg side_, hw]
/-! ### records -/
theorem clone (l : List UInt8) {n : Nat} (hn : n = l.length) (hl : l.length ≤ 4294967296) : AGood e.P 36 [.ro (.row 1 n (bT l))] (.row 1 l.length (bT l)) [.keep] := by
  subst hn
  refine agood eok (fn := Try.f36) kr_ de_ rfl kr_ ok_ ok_ ?_
  cases l with
  | nil =>
    repeat' (first | refine o_cons ?_ | refine w_ok rfl ?_ | refine o_nil ?_ | refine q_then ?_ | refine sq ?_ | refine aw_seq ?_ | refine aw_reg ?_ | refine w_pT rfl ka rfl ?_ | refine w_pF rfl ka rfl ?_ | refine o_y rfl ka ?_ | refine o_nT rfl ka ?_ | refine o_nF rfl ka ?_ | refine o_nU rfl ?_ | refine aw_cT rfl ka ?_ | refine aw_cF rfl ka ?_ | refine o_gT rfl (fun h => ?_) (fun h => ?_) | refine o_gF rfl (fun h => ?_) (fun h => ?_) | refine aw_cond rfl (fun h => ?_) (fun h => ?_) | refine aw_block ?_ | refine aw_skip ?_ | refine aw_ret ?_ | refine q_ret ?_ | refine q_blockN ?_ | refine q_blockR ?_ | refine aw_exit ?_ | refine q_exit ?_ | refine q_blockE ?_ | refine q_blockX de_ ?_ | refine fin_r rfl ?_ | (refine w_req rfl ?_ ?_; · exact rq_) | (refine w_lk rfl ?_; refine ⟨_, lk_G0, ?_⟩) | refine w_look (l' := _ :: _) rfl rfl ?_ | refine w_look (l' := []) rfl rfl ?_ | refine w_req rfl ?_ ?_ | refine w_pick rfl (fun b => ?_))
    all_goals rfl
  | cons b l =>
    repeat' (first | refine o_cons ?_ | refine w_ok rfl ?_ | refine o_nil ?_ | refine q_then ?_ | refine sq ?_ | refine aw_seq ?_ | refine aw_reg ?_ | refine w_pT rfl ka rfl ?_ | refine w_pF rfl ka rfl ?_ | refine o_y rfl ka ?_ | refine o_nT rfl ka ?_ | refine o_nF rfl ka ?_ | refine o_nU rfl ?_ | refine aw_cT rfl ka ?_ | refine aw_cF rfl ka ?_ | refine o_gT rfl (fun h => ?_) (fun h => ?_) | refine o_gF rfl (fun h => ?_) (fun h => ?_) | refine aw_cond rfl (fun h => ?_) (fun h => ?_) | refine aw_block ?_ | refine aw_skip ?_ | refine aw_ret ?_ | refine q_ret ?_ | refine q_blockN ?_ | refine q_blockR ?_ | refine aw_exit ?_ | refine q_exit ?_ | refine q_blockE ?_ | refine q_blockX de_ ?_ | refine fin_r rfl ?_ | (refine w_req rfl ?_ ?_; · exact rq_) | (refine w_lk rfl ?_; refine ⟨_, lk_G0, ?_⟩) | refine w_look (l' := _ :: _) rfl rfl ?_ | refine w_look (l' := []) rfl rfl ?_ | refine w_req rfl ?_ ?_ | refine w_pick rfl (fun b => ?_))
    exact r_row (Nat.zero_add _) rfl
end Go.Proofs.Ytmckbfmadgfddaa
