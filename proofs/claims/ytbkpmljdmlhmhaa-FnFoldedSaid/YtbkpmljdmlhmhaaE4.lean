import Derived.Test.YtbkpmljdmlhmhaaE3
import Derived.Test.YtbkpmljdmlhmhaaMD
namespace Go.Proofs.Ytbkpmljdmlhmhaa
open Go Go.AM Ty
set_option maxRecDepth 100000
set_option maxHeartbeats 4000000
set_option linter.unusedVariables false
set_option linter.unusedSimpArgs false
attribute [local irreducible] aw aops aopsD wpo wpoL condW guardW thenQ blockQ finQ Le AGood
abbrev dkR (a b : List ByteArray) (m n : Nat) : PA := .agg [.ro (.row 1 m (sT a)), .ro (.row 1 n (sT b))]
abbrev dkO (a b : List ByteArray) (m n : Nat) : PA := .agg [.own (.row 1 m (sT a)), .own (.row 1 n (sT b))]
abbrev dkT (a b : List ByteArray) : Tr := .agg [.row 1 a.length (sT a), .row 1 b.length (sT b)]
abbrev keep2 : PB := .agg [.keep, .keep]
def szD (left : Int) (a b : List ByteArray) : Int := if szM szS left a < 0 then -1 else if szM szS (szM szS left a) b < 0 then -1 else szM szS (szM szS left a) b
theorem szS_le (left : Int) (s : ByteArray) : szS left s ≤ left := by unfold szS; omega
theorem szDisk (a b : List ByteArray) {m n : Nat} (hm : m = a.length) (hn : n = b.length) (left : Int) (h0 : 0 ≤ left ∧ left ≤ 1048576) (ha : bdL bdS a) (hb : bdL bdS b) :
    AGood e.P 27 [dkR a b m n, .ro (.int .i64 left)] (.int .i64 (szD left a b)) [keep2, .keep] := by
  subst hm; subst hn
  have hx := szM_le szS_le (l := a) (left := left) (by omega)
  unfold szD
  generalize hxe : szM szS left a = x at *
  have c1 := szStringS a rfl left h0 ha.1 ha.2
  rw [hxe] at c1
  refine agood eok (fn := Try.f27) kr_ de_ rfl kr_ ok_ ok_ ?_
  rcases Int.lt_or_le x 0 with hneg | hpos
  · rw [if_pos hneg]
    repeat' (first | refine o_cons ?_ | refine w_ok rfl ?_ | refine w_call rfl (c1) ?_ | refine o_nil ?_ | refine q_then ?_ | refine sq ?_ | refine aw_seq ?_ | refine aw_reg ?_ | refine w_pT rfl ka rfl ?_ | refine w_pF rfl ka rfl ?_ | refine o_y rfl ka ?_ | refine o_nT rfl ka ?_ | refine o_nF rfl ka ?_ | refine o_nU rfl ?_ | refine aw_cT rfl ka ?_ | refine aw_cF rfl ka ?_ | refine o_gT rfl (fun h => ?_) (fun h => ?_) | refine o_gF rfl (fun h => ?_) (fun h => ?_) | refine aw_cond rfl (fun h => ?_) (fun h => ?_) | refine aw_block ?_ | refine aw_skip ?_ | refine aw_ret ?_ | refine q_ret ?_ | refine q_blockN ?_ | refine q_blockR ?_ | refine aw_exit ?_ | refine q_exit ?_ | refine q_blockE ?_ | refine q_blockX de_ ?_ | refine fin_r rfl ?_ | (refine w_req rfl ?_ ?_; · exact rq_) | (refine w_lk rfl ?_; refine ⟨_, lk_, ?_⟩) | refine w_look (l' := _ :: _) rfl rfl ?_ | refine w_look (l' := []) rfl rfl ?_ | refine w_req rfl ?_ ?_ | refine w_pick rfl (fun b => ?_))
    · rfl
    · exfalso; simp at h; omega
  · have c2 := szStringS b rfl x ⟨hpos, by omega⟩ hb.1 hb.2
    generalize szM szS x b = y at *
    rw [if_neg (by omega)]
    repeat' (first | refine o_cons ?_ | refine w_ok rfl ?_ | refine w_call rfl (c1) ?_ | refine w_call rfl (c2) ?_ | refine o_nil ?_ | refine q_then ?_ | refine sq ?_ | refine aw_seq ?_ | refine aw_reg ?_ | refine w_pT rfl ka rfl ?_ | refine w_pF rfl ka rfl ?_ | refine o_y rfl ka ?_ | refine o_nT rfl ka ?_ | refine o_nF rfl ka ?_ | refine o_nU rfl ?_ | refine aw_cT rfl ka ?_ | refine aw_cF rfl ka ?_ | refine o_gT rfl (fun h => ?_) (fun h => ?_) | refine o_gF rfl (fun h => ?_) (fun h => ?_) | refine aw_cond rfl (fun h => ?_) (fun h => ?_) | refine aw_block ?_ | refine aw_skip ?_ | refine aw_ret ?_ | refine q_ret ?_ | refine q_blockN ?_ | refine q_blockR ?_ | refine aw_exit ?_ | refine q_exit ?_ | refine q_blockE ?_ | refine q_blockX de_ ?_ | refine fin_r rfl ?_ | (refine w_req rfl ?_ ?_; · exact rq_) | (refine w_lk rfl ?_; refine ⟨_, lk_, ?_⟩) | refine w_look (l' := _ :: _) rfl rfl ?_ | refine w_look (l' := []) rfl rfl ?_ | refine w_req rfl ?_ ?_ | refine w_pick rfl (fun b => ?_))
    · exfalso; simp at h; omega
    · rename_i h1; rw [if_pos (by simpa using h)]
    · rename_i h1; rw [if_neg (by simpa using h)]
theorem toDisk (a b : List ByteArray) {m n : Nat} (hm : m = a.length) (hn : n = b.length) (ha : a.length ≤ 1048576) (hb : b.length ≤ 1048576) :
    AGood e.P 29 [dkR a b m n] (dkT a b) [keep2] := by
  subst hm; subst hn
  refine agood eok (fn := Try.f29) kr_ de_ rfl kr_ ok_ ok_ ?_
  repeat' (first | refine o_cons ?_ | refine w_ok rfl ?_ | refine w_call rfl (toStringS a rfl ha) ?_ | refine w_call rfl (toStringS b rfl hb) ?_ | refine o_nil ?_ | refine q_then ?_ | refine sq ?_ | refine aw_seq ?_ | refine aw_reg ?_ | refine w_pT rfl ka rfl ?_ | refine w_pF rfl ka rfl ?_ | refine o_y rfl ka ?_ | refine o_nT rfl ka ?_ | refine o_nF rfl ka ?_ | refine o_nU rfl ?_ | refine aw_cT rfl ka ?_ | refine aw_cF rfl ka ?_ | refine o_gT rfl (fun h => ?_) (fun h => ?_) | refine o_gF rfl (fun h => ?_) (fun h => ?_) | refine aw_cond rfl (fun h => ?_) (fun h => ?_) | refine aw_block ?_ | refine aw_skip ?_ | refine aw_ret ?_ | refine q_ret ?_ | refine q_blockN ?_ | refine q_blockR ?_ | refine aw_exit ?_ | refine q_exit ?_ | refine q_blockE ?_ | refine q_blockX de_ ?_ | refine fin_r rfl ?_ | (refine w_req rfl ?_ ?_; · exact rq_) | (refine w_lk rfl ?_; refine ⟨_, lk_, ?_⟩) | refine w_look (l' := _ :: _) rfl rfl ?_ | refine w_look (l' := []) rfl rfl ?_ | refine w_req rfl ?_ ?_ | refine w_pick rfl (fun b => ?_))
  rfl
theorem eqDisk (a b : List ByteArray) {m n m' n' : Nat} (hm : m = a.length) (hn : n = b.length) (hm' : m' = a.length) (hn' : n' = b.length) (ha : a.length ≤ 4294967296) (hb : b.length ≤ 4294967296) :
    AGood e.P 31 [dkR a b m n, dkR a b m' n'] (.bool true) [keep2, keep2] := by
  subst hm; subst hn; subst hm'; subst hn'
  refine agood eok (fn := Try.f31) kr_ de_ rfl kr_ ok_ ok_ ?_
  repeat' (first | refine o_cons ?_ | refine w_ok rfl ?_ | refine w_call rfl (eqStringS a rfl rfl ha) ?_ | refine w_call rfl (eqStringS b rfl rfl hb) ?_ | refine o_nil ?_ | refine q_then ?_ | refine sq ?_ | refine aw_seq ?_ | refine aw_reg ?_ | refine w_pT rfl ka rfl ?_ | refine w_pF rfl ka rfl ?_ | refine o_y rfl ka ?_ | refine o_nT rfl ka ?_ | refine o_nF rfl ka ?_ | refine o_nU rfl ?_ | refine aw_cT rfl ka ?_ | refine aw_cF rfl ka ?_ | refine o_gT rfl (fun h => ?_) (fun h => ?_) | refine o_gF rfl (fun h => ?_) (fun h => ?_) | refine aw_cond rfl (fun h => ?_) (fun h => ?_) | refine aw_block ?_ | refine aw_skip ?_ | refine aw_ret ?_ | refine q_ret ?_ | refine q_blockN ?_ | refine q_blockR ?_ | refine aw_exit ?_ | refine q_exit ?_ | refine q_blockE ?_ | refine q_blockX de_ ?_ | refine fin_r rfl ?_ | (refine w_req rfl ?_ ?_; · exact rq_) | (refine w_lk rfl ?_; refine ⟨_, lk_, ?_⟩) | refine w_look (l' := _ :: _) rfl rfl ?_ | refine w_look (l' := []) rfl rfl ?_ | refine w_req rfl ?_ ?_ | refine w_pick rfl (fun b => ?_))
  all_goals rfl
theorem markDisk (a b : List ByteArray) {m n : Nat} (hm : m = a.length) (hn : n = b.length) (k : Int) (hk : 0 ≤ k ∧ k ≤ 1000) (ha : a.length ≤ 1048576) (hb : b.length ≤ 1048576) :
    AGood e.P 46 [dkO a b m n, .ro (.int .i64 k)] (.int .i64 (k + m + n)) [.agg [.own (.row 1 m (sT (markS k m))), .own (.row 1 n (sT (markS (k + m) n)))], .keep] := by
  subst hm; subst hn
  refine agood eok (fn := Try.f46) kr_ de_ rfl kr_ ok_ ok_ ?_
  repeat' (first | refine o_cons ?_ | refine w_ok rfl ?_ | refine w_call rfl (markStringS a rfl _ (by omega) (by omega)) ?_ | refine w_call rfl (markStringS b rfl _ (by omega) (by omega)) ?_ | refine o_nil ?_ | refine q_then ?_ | refine sq ?_ | refine aw_seq ?_ | refine aw_reg ?_ | refine w_pT rfl ka rfl ?_ | refine w_pF rfl ka rfl ?_ | refine o_y rfl ka ?_ | refine o_nT rfl ka ?_ | refine o_nF rfl ka ?_ | refine o_nU rfl ?_ | refine aw_cT rfl ka ?_ | refine aw_cF rfl ka ?_ | refine o_gT rfl (fun h => ?_) (fun h => ?_) | refine o_gF rfl (fun h => ?_) (fun h => ?_) | refine aw_cond rfl (fun h => ?_) (fun h => ?_) | refine aw_block ?_ | refine aw_skip ?_ | refine aw_ret ?_ | refine q_ret ?_ | refine q_blockN ?_ | refine q_blockR ?_ | refine aw_exit ?_ | refine q_exit ?_ | refine q_blockE ?_ | refine q_blockX de_ ?_ | refine fin_r rfl ?_ | (refine w_req rfl ?_ ?_; · exact rq_) | (refine w_lk rfl ?_; refine ⟨_, lk_, ?_⟩) | refine w_look (l' := _ :: _) rfl rfl ?_ | refine w_look (l' := []) rfl rfl ?_ | refine w_req rfl ?_ ?_ | refine w_pick rfl (fun b => ?_))
  rfl
theorem heldDisk (k : Int) (m n : Nat) (hk : 0 ≤ k ∧ k ≤ 1000) (ha : m ≤ 1048576) (hb : n ≤ 1048576) :
    AGood e.P 108 [dkR (markS k m) (markS (k + m) n) m n, .ro (.int .i64 k)] (.int .i64 (k + m + n)) [keep2, .keep] := by
  refine agood eok (fn := Try.f108) kr_ de_ rfl kr_ ok_ ok_ ?_
  repeat' (first | refine o_cons ?_ | refine w_ok rfl ?_ | refine w_call rfl (heldStringS k m (by omega) (by omega)) ?_ | refine w_call rfl (heldStringS (k + m) n (by omega) (by omega)) ?_ | refine o_nil ?_ | refine q_then ?_ | refine sq ?_ | refine aw_seq ?_ | refine aw_reg ?_ | refine w_pT rfl ka rfl ?_ | refine w_pF rfl ka rfl ?_ | refine o_y rfl ka ?_ | refine o_nT rfl ka ?_ | refine o_nF rfl ka ?_ | refine o_nU rfl ?_ | refine aw_cT rfl ka ?_ | refine aw_cF rfl ka ?_ | refine o_gT rfl (fun h => ?_) (fun h => ?_) | refine o_gF rfl (fun h => ?_) (fun h => ?_) | refine aw_cond rfl (fun h => ?_) (fun h => ?_) | refine aw_block ?_ | refine aw_skip ?_ | refine aw_ret ?_ | refine q_ret ?_ | refine q_blockN ?_ | refine q_blockR ?_ | refine aw_exit ?_ | refine q_exit ?_ | refine q_blockE ?_ | refine q_blockX de_ ?_ | refine fin_r rfl ?_ | (refine w_req rfl ?_ ?_; · exact rq_) | (refine w_lk rfl ?_; refine ⟨_, lk_, ?_⟩) | refine w_look (l' := _ :: _) rfl rfl ?_ | refine w_look (l' := []) rfl rfl ?_ | refine w_req rfl ?_ ?_ | refine w_pick rfl (fun b => ?_))
  · exfalso; simp at h; omega
  · exfalso; simp at h; omega
  · rfl
end Go.Proofs.Ytbkpmljdmlhmhaa
