import Derived.Test.YtbkpmljdmlhmhaaX1
namespace Go.Proofs.Ytbkpmljdmlhmhaa
open Go Go.AM Ty
set_option maxRecDepth 100000
set_option maxHeartbeats 4000000
set_option linter.unusedVariables false
set_option linter.unusedSimpArgs false
attribute [local irreducible] aw aops aopsD wpo wpoL condW guardW thenQ blockQ finQ Le AGood
def bitM (x : Nat) : Nat := if x % 2 = 1 then (x / 2) ^^^ 2197175160 else x / 2
def bitsM : Nat → Nat → Nat
  | 0, x => x
  | n + 1, x => bitsM n (bitM x)
def crcByte (x : Nat) (b : UInt8) : Nat := bitsM 8 (x ^^^ b.toNat)
def crcF (l : List UInt8) : Nat := l.foldl crcByte 4294967295
def crcM (l : List UInt8) : Nat := crcF l ^^^ 4294967295
theorem bitM_lt {x : Nat} (h : x < 4294967296) : bitM x < 4294967296 := by
  unfold bitM
  split
  · exact Nat.xor_lt_two_pow (n := 32) (by omega) (by decide)
  · omega
theorem bitsM_lt : ∀ (n : Nat) {x : Nat}, x < 4294967296 → bitsM n x < 4294967296
  | 0, x, h => h
  | n + 1, x, h => bitsM_lt n (bitM_lt h)
theorem crcByte_lt {x : Nat} (b : UInt8) (h : x < 4294967296) : crcByte x b < 4294967296 :=
  bitsM_lt 8 (Nat.xor_lt_two_pow (n := 32) h (by have := b.toNat_lt; omega))
theorem foldl_lt : ∀ (l : List UInt8) {x : Nat}, x < 4294967296 → l.foldl crcByte x < 4294967296
  | [], x, h => h
  | b :: l, x, h => foldl_lt l (crcByte_lt b h)
theorem crcF_lt (l : List UInt8) : crcF l < 4294967296 := foldl_lt l (by decide)
theorem crcF_succ {l : List UInt8} {i : Nat} (h : i < l.length) : crcF (l.take (i + 1)) = crcByte (crcF (l.take i)) (l.getD i 0) := by
  unfold crcF; rw [take_succ_get h, List.foldl_append]; rfl
theorem bitM_odd {x : Nat} (h : x % 2 = 1) : bitM x = (x / 2) ^^^ 2197175160 := if_pos h
theorem bitM_even {x : Nat} (h : ¬ x % 2 = 1) : bitM x = x / 2 := if_neg h
theorem bitsM_next {k x : Nat} (hk : k < 8) : bitsM (8 - (k + 1)) (bitM x) = bitsM (8 - k) x := by
  rw [show 8 - k = (8 - (k + 1)) + 1 by omega]; rfl
theorem crc (l : List UInt8) {n : Nat} (hn : n = l.length) (hl : l.length ≤ 4294967296) : AGood e.P 69 [.ro (.row 1 n (bT l))] (.int .i64 (crcM l)) [.keep] := by
  subst hn
  refine agood eok (fn := Try.f69) kr_ de_ rfl kr_ ok_ ok_ ?_
  repeat' (first | refine o_cons ?_ | refine w_ok rfl ?_ | refine o_nil ?_ | refine q_then ?_ | refine sq ?_ | refine aw_seq ?_ | refine aw_reg ?_ | refine w_pT rfl ka rfl ?_ | refine w_pF rfl ka rfl ?_ | refine o_y rfl ka ?_ | refine o_nT rfl ka ?_ | refine o_nF rfl ka ?_ | refine o_nU rfl ?_ | refine aw_cT rfl ka ?_ | refine aw_cF rfl ka ?_ | refine o_gT rfl (fun h => ?_) (fun h => ?_) | refine o_gF rfl (fun h => ?_) (fun h => ?_) | refine aw_cond rfl (fun h => ?_) (fun h => ?_) | refine aw_block ?_ | refine aw_skip ?_ | refine aw_ret ?_ | refine q_ret ?_ | refine q_blockN ?_ | refine q_blockR ?_ | refine aw_exit ?_ | refine q_exit ?_ | refine q_blockE ?_ | refine q_blockX de_ ?_ | refine fin_r rfl ?_ | (refine w_req rfl ?_ ?_; · exact rq_) | (refine w_lk rfl ?_; refine ⟨_, lk_, ?_⟩) | refine w_look (l' := _ :: _) rfl rfl ?_ | refine w_look (l' := []) rfl rfl ?_ | refine w_req rfl ?_ ?_ | refine w_pick rfl (fun b => ?_))
  refine loop1 (fun i : Nat => ⟨tbl [(3, .int .u32 (crcF (l.take i))), (7, .ro none 1 l.length (bT l)), (8, .int .i64 l.length), (9, .int .i64 i)], mbl [], [.ro (some 0) 1 l.length (bT l)]⟩) (fun i => i ≤ l.length) (fun i => l.length - i) 0 (Nat.zero_le _) ?_ ?_
  · (refine le_of [] ?_; repeat' (first | exact trivial | refine an ?_ ?_ | with_reducible rfl | exact bt rfl | exact Or.inl rfl | exact Or.inr rfl | exact Eq.refl _))
  intro i hi
  repeat' (first | refine o_cons ?_ | refine w_ok rfl ?_ | refine o_nil ?_ | refine q_then ?_ | refine sq ?_ | refine aw_seq ?_ | refine aw_reg ?_ | refine w_pT rfl ka rfl ?_ | refine w_pF rfl ka rfl ?_ | refine o_y rfl ka ?_ | refine o_nT rfl ka ?_ | refine o_nF rfl ka ?_ | refine o_nU rfl ?_ | refine aw_cT rfl ka ?_ | refine aw_cF rfl ka ?_ | refine o_gT rfl (fun h => ?_) (fun h => ?_) | refine o_gF rfl (fun h => ?_) (fun h => ?_) | refine aw_cond rfl (fun h => ?_) (fun h => ?_) | refine aw_block ?_ | refine aw_skip ?_ | refine aw_ret ?_ | refine q_ret ?_ | refine q_blockN ?_ | refine q_blockR ?_ | refine aw_exit ?_ | refine q_exit ?_ | refine q_blockE ?_ | refine q_blockX de_ ?_ | refine fin_r rfl ?_ | (refine w_req rfl ?_ ?_; · exact rq_) | (refine w_lk rfl ?_; refine ⟨_, lk_, ?_⟩) | refine w_look (l' := _ :: _) rfl rfl ?_ | refine w_look (l' := []) rfl rfl ?_ | refine w_req rfl ?_ ?_ | refine w_pick rfl (fun b => ?_))
  · have hil : i < l.length := by simp at h; omega
    have hb := (l.getD i 0).toNat_lt
    refine loop2 (fun k x : Nat => ⟨tbl [(3, .int .u32 x), (7, .ro none 1 l.length (bT l)), (8, .int .i64 l.length), (9, .int .i64 i), (17, .int .i64 k)], mbl [], [.ro (some 0) 1 l.length (bT l)]⟩) (fun k x => k ≤ 8 ∧ x < 4294967296 ∧ bitsM (8 - k) x = crcF (l.take (i + 1))) (fun k _ => 8 - k) 0 (crcF (l.take i) ^^^ (l.getD i 0).toNat) ?_ ?_ ?_
    · exact ⟨by omega, Nat.xor_lt_two_pow (n := 32) (crcF_lt _) (by omega), (crcF_succ hil).symm⟩
    · (refine le_of [] ?_; repeat' (first | exact trivial | refine an ?_ ?_ | with_reducible rfl | exact bt rfl | exact Or.inl rfl | exact Or.inr rfl | exact Eq.refl _))
      · refine Eq.trans (congrArg _ ?_) (xor32 (crcF_lt _) (by omega : (l.getD i 0).toNat < _))
        simp only [Int.toNat_natCast]
        rw [wrapU32 (by omega) (by omega)]
    rintro k x ⟨h1, h2, h3⟩
    repeat' (first | refine o_cons ?_ | refine w_ok rfl ?_ | refine o_nil ?_ | refine q_then ?_ | refine sq ?_ | refine aw_seq ?_ | refine aw_reg ?_ | refine w_pT rfl ka rfl ?_ | refine w_pF rfl ka rfl ?_ | refine o_y rfl ka ?_ | refine o_nT rfl ka ?_ | refine o_nF rfl ka ?_ | refine o_nU rfl ?_ | refine aw_cT rfl ka ?_ | refine aw_cF rfl ka ?_ | refine o_gT rfl (fun h => ?_) (fun h => ?_) | refine o_gF rfl (fun h => ?_) (fun h => ?_) | refine aw_cond rfl (fun h => ?_) (fun h => ?_) | refine aw_block ?_ | refine aw_skip ?_ | refine aw_ret ?_ | refine q_ret ?_ | refine q_blockN ?_ | refine q_blockR ?_ | refine aw_exit ?_ | refine q_exit ?_ | refine q_blockE ?_ | refine q_blockX de_ ?_ | refine fin_r rfl ?_ | (refine w_req rfl ?_ ?_; · exact rq_) | (refine w_lk rfl ?_; refine ⟨_, lk_, ?_⟩) | refine w_look (l' := _ :: _) rfl rfl ?_ | refine w_look (l' := []) rfl rfl ?_ | refine w_req rfl ?_ ?_ | refine w_pick rfl (fun b => ?_))
    · rename_i h0
      have hk : k < 8 := by simp at h0; omega
      rw [and1_32 h2] at h
      have hx : x % 2 = 1 := by simp at h; omega
      refine ⟨k + 1, bitM x, ⟨⟨hk, bitM_lt h2, (bitsM_next hk).trans h3⟩, by omega⟩, ?_⟩
      (refine le_of [] ?_; repeat' (first | exact trivial | refine an ?_ ?_ | with_reducible rfl | exact bt rfl | exact Or.inl rfl | exact Or.inr rfl | exact Eq.refl _))
      · rw [bitM_odd hx]
        exact (congrArg (fun z => IntKind.u32.wrap ((BitVec.ofInt IntKind.u32.bits z ^^^ BitVec.ofInt IntKind.u32.bits 2197175160).toNat : Int)) (shr1 x)).trans (xor32 (b := 2197175160) (by omega) (by decide))
      · rw [wrap64] <;> omega
    · rename_i h0
      have hk : k < 8 := by simp at h0; omega
      rw [and1_32 h2] at h
      have hx : ¬ x % 2 = 1 := by simp at h; omega
      refine ⟨k + 1, bitM x, ⟨⟨hk, bitM_lt h2, (bitsM_next hk).trans h3⟩, by omega⟩, ?_⟩
      (refine le_of [] ?_; repeat' (first | exact trivial | refine an ?_ ?_ | with_reducible rfl | exact bt rfl | exact Or.inl rfl | exact Or.inr rfl | exact Eq.refl _))
      · rw [bitM_even hx]; exact shr1 x
      · rw [wrap64] <;> omega
    · have hk : k = 8 := by simp at h; omega
      subst hk
      refine ⟨i + 1, ⟨by omega, by omega⟩, ?_⟩
      (refine le_of [] ?_; repeat' (first | exact trivial | refine an ?_ ?_ | with_reducible rfl | exact bt rfl | exact Or.inl rfl | exact Or.inr rfl | exact Eq.refl _))
      · rw [← h3]; rfl
      · rw [wrap64] <;> omega
  · have : i = l.length := by simp at h; omega
    subst this
    rw [List.take_length]
    have hc := crcF_lt l
    refine r_int ?_
    have : crcF l ^^^ 4294967295 < 4294967296 := Nat.xor_lt_two_pow (n := 32) hc (by decide)
    refine (congrArg (IntKind.i64.wrap) (xor32 (a := 4294967295) (by decide) hc)).trans ?_
    rw [Nat.xor_comm, wrap64 (by omega) (by omega)]; rfl
theorem crcS (l : List UInt8) {n : Nat} (hn : n = l.length) (hl : l.length ≤ 4294967296) : AGood e.P 123 [.ro (.row 1 n (bT l))] (.int .i64 (crcM l)) [.keep] := by
  subst hn
  refine agood eok (fn := Try.f123) kr_ de_ rfl kr_ ok_ ok_ ?_
  repeat' (first | refine o_cons ?_ | refine w_ok rfl ?_ | refine o_nil ?_ | refine q_then ?_ | refine sq ?_ | refine aw_seq ?_ | refine aw_reg ?_ | refine w_pT rfl ka rfl ?_ | refine w_pF rfl ka rfl ?_ | refine o_y rfl ka ?_ | refine o_nT rfl ka ?_ | refine o_nF rfl ka ?_ | refine o_nU rfl ?_ | refine aw_cT rfl ka ?_ | refine aw_cF rfl ka ?_ | refine o_gT rfl (fun h => ?_) (fun h => ?_) | refine o_gF rfl (fun h => ?_) (fun h => ?_) | refine aw_cond rfl (fun h => ?_) (fun h => ?_) | refine aw_block ?_ | refine aw_skip ?_ | refine aw_ret ?_ | refine q_ret ?_ | refine q_blockN ?_ | refine q_blockR ?_ | refine aw_exit ?_ | refine q_exit ?_ | refine q_blockE ?_ | refine q_blockX de_ ?_ | refine fin_r rfl ?_ | (refine w_req rfl ?_ ?_; · exact rq_) | (refine w_lk rfl ?_; refine ⟨_, lk_, ?_⟩) | refine w_look (l' := _ :: _) rfl rfl ?_ | refine w_look (l' := []) rfl rfl ?_ | refine w_req rfl ?_ ?_ | refine w_pick rfl (fun b => ?_))
  refine loop1 (fun i : Nat => ⟨tbl [(3, .int .i64 (crcF (l.take i))), (0, .ro none 1 l.length (bT l)), (4, .int .i64 i)], mbl [], [.ro (some 0) 1 l.length (bT l)]⟩) (fun i => i ≤ l.length) (fun i => l.length - i) 0 (Nat.zero_le _) ?_ ?_
  · (refine le_of [] ?_; repeat' (first | exact trivial | refine an ?_ ?_ | with_reducible rfl | exact bt rfl | exact Or.inl rfl | exact Or.inr rfl | exact Eq.refl _))
  intro i hi
  repeat' (first | refine o_cons ?_ | refine w_ok rfl ?_ | refine o_nil ?_ | refine q_then ?_ | refine sq ?_ | refine aw_seq ?_ | refine aw_reg ?_ | refine w_pT rfl ka rfl ?_ | refine w_pF rfl ka rfl ?_ | refine o_y rfl ka ?_ | refine o_nT rfl ka ?_ | refine o_nF rfl ka ?_ | refine o_nU rfl ?_ | refine aw_cT rfl ka ?_ | refine aw_cF rfl ka ?_ | refine o_gT rfl (fun h => ?_) (fun h => ?_) | refine o_gF rfl (fun h => ?_) (fun h => ?_) | refine aw_cond rfl (fun h => ?_) (fun h => ?_) | refine aw_block ?_ | refine aw_skip ?_ | refine aw_ret ?_ | refine q_ret ?_ | refine q_blockN ?_ | refine q_blockR ?_ | refine aw_exit ?_ | refine q_exit ?_ | refine q_blockE ?_ | refine q_blockX de_ ?_ | refine fin_r rfl ?_ | (refine w_req rfl ?_ ?_; · exact rq_) | (refine w_lk rfl ?_; refine ⟨_, lk_, ?_⟩) | refine w_look (l' := _ :: _) rfl rfl ?_ | refine w_look (l' := []) rfl rfl ?_ | refine w_req rfl ?_ ?_ | refine w_pick rfl (fun b => ?_))
  · have hil : i < l.length := by simp at h; omega
    have hb := (l.getD i 0).toNat_lt
    have hc := crcF_lt (l.take i)
    refine loop2 (fun k x : Nat => ⟨tbl [(3, .int .i64 x), (0, .ro none 1 l.length (bT l)), (4, .int .i64 i), (5, .int .i64 k)], mbl [], [.ro (some 0) 1 l.length (bT l)]⟩) (fun k x => k ≤ 8 ∧ x < 4294967296 ∧ bitsM (8 - k) x = crcF (l.take (i + 1))) (fun k _ => 8 - k) 0 (crcF (l.take i) ^^^ (l.getD i 0).toNat) ?_ ?_ ?_
    · exact ⟨by omega, Nat.xor_lt_two_pow (n := 32) hc (by omega), (crcF_succ hil).symm⟩
    · (refine le_of [] ?_; repeat' (first | exact trivial | refine an ?_ ?_ | with_reducible rfl | exact bt rfl | exact Or.inl rfl | exact Or.inr rfl | exact Eq.refl _))
      · refine Eq.trans (congrArg _ ?_) (xor64 (by omega) (by omega : (l.getD i 0).toNat < _))
        simp only [Int.toNat_natCast]
        rw [wrap64 (by omega) (by omega)]
    rintro k x ⟨h1, h2, h3⟩
    repeat' (first | refine o_cons ?_ | refine w_ok rfl ?_ | refine o_nil ?_ | refine q_then ?_ | refine sq ?_ | refine aw_seq ?_ | refine aw_reg ?_ | refine w_pT rfl ka rfl ?_ | refine w_pF rfl ka rfl ?_ | refine o_y rfl ka ?_ | refine o_nT rfl ka ?_ | refine o_nF rfl ka ?_ | refine o_nU rfl ?_ | refine aw_cT rfl ka ?_ | refine aw_cF rfl ka ?_ | refine o_gT rfl (fun h => ?_) (fun h => ?_) | refine o_gF rfl (fun h => ?_) (fun h => ?_) | refine aw_cond rfl (fun h => ?_) (fun h => ?_) | refine aw_block ?_ | refine aw_skip ?_ | refine aw_ret ?_ | refine q_ret ?_ | refine q_blockN ?_ | refine q_blockR ?_ | refine aw_exit ?_ | refine q_exit ?_ | refine q_blockE ?_ | refine q_blockX de_ ?_ | refine fin_r rfl ?_ | (refine w_req rfl ?_ ?_; · exact rq_) | (refine w_lk rfl ?_; refine ⟨_, lk_, ?_⟩) | refine w_look (l' := _ :: _) rfl rfl ?_ | refine w_look (l' := []) rfl rfl ?_ | refine w_req rfl ?_ ?_ | refine w_pick rfl (fun b => ?_))
    · rename_i h0
      have hk : k < 8 := by simp at h0; omega
      rw [and1_64 (by omega)] at h
      have hx : x % 2 = 1 := by simp at h; omega
      refine ⟨k + 1, bitM x, ⟨⟨hk, bitM_lt h2, (bitsM_next hk).trans h3⟩, by omega⟩, ?_⟩
      (refine le_of [] ?_; repeat' (first | exact trivial | refine an ?_ ?_ | with_reducible rfl | exact bt rfl | exact Or.inl rfl | exact Or.inr rfl | exact Eq.refl _))
      · rw [bitM_odd hx]
        exact (congrArg (fun z => IntKind.i64.wrap ((BitVec.ofInt IntKind.i64.bits z ^^^ BitVec.ofInt IntKind.i64.bits 2197175160).toNat : Int)) (shr1 x)).trans (xor64 (b := 2197175160) (by omega) (by decide))
      · rw [wrap64] <;> omega
    · rename_i h0
      have hk : k < 8 := by simp at h0; omega
      rw [and1_64 (by omega)] at h
      have hx : ¬ x % 2 = 1 := by simp at h; omega
      refine ⟨k + 1, bitM x, ⟨⟨hk, bitM_lt h2, (bitsM_next hk).trans h3⟩, by omega⟩, ?_⟩
      (refine le_of [] ?_; repeat' (first | exact trivial | refine an ?_ ?_ | with_reducible rfl | exact bt rfl | exact Or.inl rfl | exact Or.inr rfl | exact Eq.refl _))
      · rw [bitM_even hx]; exact shr1 x
      · rw [wrap64] <;> omega
    · have hk : k = 8 := by simp at h; omega
      subst hk
      refine ⟨i + 1, ⟨by omega, by omega⟩, ?_⟩
      (refine le_of [] ?_; repeat' (first | exact trivial | refine an ?_ ?_ | with_reducible rfl | exact bt rfl | exact Or.inl rfl | exact Or.inr rfl | exact Eq.refl _))
      · rw [← h3]; rfl
      · rw [wrap64] <;> omega
  · have : i = l.length := by simp at h; omega
    subst this
    rw [List.take_length]
    have hc := crcF_lt l
    refine r_int ?_
    exact xor64 (b := 4294967295) (by omega) (by decide)
end Go.Proofs.Ytbkpmljdmlhmhaa
