import Derived.Test.YtbkpmljdmlhmhaaX2
namespace Go.Proofs.Ytbkpmljdmlhmhaa
open Go Go.AM Ty
set_option maxRecDepth 100000
set_option maxHeartbeats 4000000
set_option linter.unusedVariables false
set_option linter.unusedSimpArgs false
attribute [local irreducible] aw aops aopsD wpo wpoL condW guardW thenQ blockQ finQ Le AGood
def bigM (n : Nat) : Nat → List UInt8
  | 0 => []
  | k + 1 => UInt8.ofNat (n / 256 ^ k) :: bigM n k
@[simp] theorem bigM_len (n k : Nat) : (bigM n k).length = k := by
  induction k with
  | zero => rfl
  | succ k ih => simp [bigM, ih]
theorem big_byte {n j : Nat} (hj : j < 8) : ((n : Int).fdiv (2 ^ (min (IntKind.u64.wrap (IntKind.i64.wrap (8 * (((j + 1 : Nat) : Int) - 1)))).toNat 64))) = ((n / 256 ^ j : Nat) : Int) := by
  rw [wrap64 (by omega) (by omega), wrapU64 (by omega) (by omega), show min (8 * (((j + 1 : Nat) : Int) - 1)).toNat 64 = 8 * j by omega, Int.fdiv_eq_ediv_of_nonneg _ (by exact Int.pow_nonneg (by decide))]
  rw [show (256 : Nat) ^ j = 2 ^ (8 * j) by rw [Nat.pow_mul]]
  simp
theorem putBig (b : List UInt8) {c : Nat} (hc : c = b.length) (n k : Nat) (hn : n < 9223372036854775808) (hk : k ≤ 8) (hb : b.length ≤ 4294967296) : AGood e.P 68 [.own (.row 1 c (bT b)), .ro (.int .i64 n), .ro (.int .i64 k)] (.row 1 (b ++ bigM n k).length (bT (b ++ bigM n k))) [.gone, .keep, .keep] := by
  subst hc
  refine agood eok (fn := Try.f68) kr_ de_ rfl kr_ ok_ ok_ ?_
  repeat' (first | refine o_cons ?_ | refine w_ok rfl ?_ | refine o_nil ?_ | refine q_then ?_ | refine sq ?_ | refine aw_seq ?_ | refine aw_reg ?_ | refine w_pT rfl ka rfl ?_ | refine w_pF rfl ka rfl ?_ | refine o_y rfl ka ?_ | refine o_nT rfl ka ?_ | refine o_nF rfl ka ?_ | refine o_nU rfl ?_ | refine aw_cT rfl ka ?_ | refine aw_cF rfl ka ?_ | refine o_gT rfl (fun h => ?_) (fun h => ?_) | refine o_gF rfl (fun h => ?_) (fun h => ?_) | refine aw_cond rfl (fun h => ?_) (fun h => ?_) | refine aw_block ?_ | refine aw_skip ?_ | refine aw_ret ?_ | refine q_ret ?_ | refine q_blockN ?_ | refine q_blockR ?_ | refine aw_exit ?_ | refine q_exit ?_ | refine q_blockE ?_ | refine q_blockX de_ ?_ | refine fin_r rfl ?_ | (refine w_req rfl ?_ ?_; · exact rq_) | (refine w_lk rfl ?_; refine ⟨_, lk_, ?_⟩) | refine w_look (l' := _ :: _) rfl rfl ?_ | refine w_look (l' := []) rfl rfl ?_ | refine w_req rfl ?_ ?_ | refine w_pick rfl (fun b => ?_))
  refine loop2 (fun (j : Nat) (p : List UInt8) => ⟨tbl [(0, .own 0 1), (1, .int .i64 n), (7, .int .i64 ((j : Int) - 1))], mbl [(0, .row 1 0 1 (b ++ p).length (bT (b ++ p)))], [.own 0 0, .int .i64 n, .int .i64 k]⟩) (fun j p => j ≤ k ∧ p ++ bigM n j = bigM n k) (fun j _ => j) k [] ?_ ?_ ?_
  · exact ⟨Nat.le_refl _, rfl⟩
  · (refine le_of [(0, 0)] ?_; repeat' (first | exact trivial | refine an ?_ ?_ | with_reducible rfl | exact bt rfl | exact Or.inl rfl | exact Or.inr rfl | exact Eq.refl _))
    all_goals first | omega | (simp; done) | (rw [wrap64] <;> omega) | (simp; omega)
  rintro j p ⟨h1, h2⟩
  have hl := congrArg List.length h2
  simp only [List.length_append, bigM_len] at hl
  repeat' (first | refine o_cons ?_ | refine w_ok rfl ?_ | refine o_nil ?_ | refine q_then ?_ | refine sq ?_ | refine aw_seq ?_ | refine aw_reg ?_ | refine w_pT rfl ka rfl ?_ | refine w_pF rfl ka rfl ?_ | refine o_y rfl ka ?_ | refine o_nT rfl ka ?_ | refine o_nF rfl ka ?_ | refine o_nU rfl ?_ | refine aw_cT rfl ka ?_ | refine aw_cF rfl ka ?_ | refine o_gT rfl (fun h => ?_) (fun h => ?_) | refine o_gF rfl (fun h => ?_) (fun h => ?_) | refine aw_cond rfl (fun h => ?_) (fun h => ?_) | refine aw_block ?_ | refine aw_skip ?_ | refine aw_ret ?_ | refine q_ret ?_ | refine q_blockN ?_ | refine q_blockR ?_ | refine aw_exit ?_ | refine q_exit ?_ | refine q_blockE ?_ | refine q_blockX de_ ?_ | refine fin_r rfl ?_ | (refine w_req rfl ?_ ?_; · exact rq_) | (refine w_lk rfl ?_; refine ⟨_, lk_, ?_⟩) | refine w_look (l' := _ :: _) rfl rfl ?_ | refine w_look (l' := []) rfl rfl ?_ | refine w_req rfl ?_ ?_ | refine w_pick rfl (fun b => ?_))
  · match j with
    | 0 => simp at h
    | j + 1 =>
      refine ⟨j, p ++ [UInt8.ofNat (n / 256 ^ j)], ⟨⟨by omega, by simpa [bigM] using h2⟩, by omega⟩, ?_⟩
      (refine le_of [(0, 0)] ?_; repeat' (first | exact trivial | refine an ?_ ?_ | with_reducible rfl | exact bt rfl | exact Or.inl rfl | exact Or.inr rfl | exact Eq.refl _))
      any_goals first | omega | (simp; done) | (rw [wrap64] <;> omega) | (simp; omega)
      · refine (congrArg (fun z => bT (b ++ p ++ [ub z])) (big_byte (n := n) (j := j) (by omega))).trans ?_
        rw [ub_nat, List.append_assoc]
  · match j with
    | 0 =>
      rw [show p = bigM n k by simpa [bigM] using h2]
    | j + 1 => simp at h
theorem PutBig (b : List UInt8) {c : Nat} (hc : c = b.length) (n k : Nat) (hn : n < 9223372036854775808) (hk : 1 ≤ k ∧ k ≤ 8) (hb : b.length ≤ 4294967296) : AGood e.P 122 [.ro (.row 1 c (bT b)), .ro (.int .i64 n), .ro (.int .i64 k)] (.row 1 (b ++ bigM n k).length (bT (b ++ bigM n k))) [.keep, .keep, .keep] := by
  subst hc
  refine agood eok (fn := Try.f122) kr_ de_ rfl kr_ ok_ ok_ ?_
  repeat' (first | refine o_cons ?_ | refine w_ok rfl ?_ | refine w_call rfl (inRangeS ..) ?_ | refine o_nil ?_ | refine q_then ?_ | refine sq ?_ | refine aw_seq ?_ | refine aw_reg ?_ | refine w_pT rfl ka rfl ?_ | refine w_pF rfl ka rfl ?_ | refine o_y rfl ka ?_ | refine o_nT rfl ka ?_ | refine o_nF rfl ka ?_ | refine o_nU rfl ?_ | refine aw_cT rfl ka ?_ | refine aw_cF rfl ka ?_ | refine o_gT rfl (fun h => ?_) (fun h => ?_) | refine o_gF rfl (fun h => ?_) (fun h => ?_) | refine aw_cond rfl (fun h => ?_) (fun h => ?_) | refine aw_block ?_ | refine aw_skip ?_ | refine aw_ret ?_ | refine q_ret ?_ | refine q_blockN ?_ | refine q_blockR ?_ | refine aw_exit ?_ | refine q_exit ?_ | refine q_blockE ?_ | refine q_blockX de_ ?_ | refine fin_r rfl ?_ | (refine w_req rfl ?_ ?_; · exact rq_) | (refine w_lk rfl ?_; refine ⟨_, lk_, ?_⟩) | refine w_look (l' := _ :: _) rfl rfl ?_ | refine w_look (l' := []) rfl rfl ?_ | refine w_req rfl ?_ ?_ | refine w_pick rfl (fun b => ?_))
  · simp at h; omega
  refine loop2 (fun (j : Nat) (p : List UInt8) => ⟨tbl [(7, .own 10000 0), (1, .int .i64 n), (8, .int .i64 ((j : Int) - 1))], mbl [(10000, .row 0 0 1 (b ++ p).length (bT (b ++ p)))], [.ro (some 0) 1 b.length (bT b), .int .i64 n, .int .i64 k]⟩) (fun j p => j ≤ k ∧ p ++ bigM n j = bigM n k) (fun j _ => j) k [] ?_ ?_ ?_
  · exact ⟨Nat.le_refl _, rfl⟩
  · (refine le_of [(10000, 10000)] ?_; repeat' (first | exact trivial | refine an ?_ ?_ | with_reducible rfl | exact bt rfl | exact Or.inl rfl | exact Or.inr rfl | exact Eq.refl _))
    all_goals first | omega | (simp; done) | (rw [wrap64] <;> omega) | (simp; omega)
  rintro j p ⟨h1, h2⟩
  have hl := congrArg List.length h2
  simp only [List.length_append, bigM_len] at hl
  repeat' (first | refine o_cons ?_ | refine w_ok rfl ?_ | refine o_nil ?_ | refine q_then ?_ | refine sq ?_ | refine aw_seq ?_ | refine aw_reg ?_ | refine w_pT rfl ka rfl ?_ | refine w_pF rfl ka rfl ?_ | refine o_y rfl ka ?_ | refine o_nT rfl ka ?_ | refine o_nF rfl ka ?_ | refine o_nU rfl ?_ | refine aw_cT rfl ka ?_ | refine aw_cF rfl ka ?_ | refine o_gT rfl (fun h => ?_) (fun h => ?_) | refine o_gF rfl (fun h => ?_) (fun h => ?_) | refine aw_cond rfl (fun h => ?_) (fun h => ?_) | refine aw_block ?_ | refine aw_skip ?_ | refine aw_ret ?_ | refine q_ret ?_ | refine q_blockN ?_ | refine q_blockR ?_ | refine aw_exit ?_ | refine q_exit ?_ | refine q_blockE ?_ | refine q_blockX de_ ?_ | refine fin_r rfl ?_ | (refine w_req rfl ?_ ?_; · exact rq_) | (refine w_lk rfl ?_; refine ⟨_, lk_, ?_⟩) | refine w_look (l' := _ :: _) rfl rfl ?_ | refine w_look (l' := []) rfl rfl ?_ | refine w_req rfl ?_ ?_ | refine w_pick rfl (fun b => ?_))
  · match j with
    | 0 => simp at h
    | j + 1 =>
      refine ⟨j, p ++ [UInt8.ofNat (n / 256 ^ j)], ⟨⟨by omega, by simpa [bigM] using h2⟩, by omega⟩, ?_⟩
      (refine le_of [(10000, 10000)] ?_; repeat' (first | exact trivial | refine an ?_ ?_ | with_reducible rfl | exact bt rfl | exact Or.inl rfl | exact Or.inr rfl | exact Eq.refl _))
      any_goals first | omega | (simp; done) | (rw [wrap64] <;> omega) | (simp; omega)
      · refine (congrArg (fun z => bT (b ++ p ++ [ub z])) (big_byte (n := n) (j := j) (by omega))).trans ?_
        rw [ub_nat, List.append_assoc]
  · match j with
    | 0 =>
      rw [show p = bigM n k by simpa [bigM] using h2]
    | j + 1 => simp at h
end Go.Proofs.Ytbkpmljdmlhmhaa
