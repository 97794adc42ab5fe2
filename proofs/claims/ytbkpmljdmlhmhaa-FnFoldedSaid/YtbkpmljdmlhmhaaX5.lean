import Derived.Test.YtbkpmljdmlhmhaaX4
import Derived.Test.YtbkpmljdmlhmhaaX3
namespace Go.Proofs.Ytbkpmljdmlhmhaa
open Go Go.AM Ty
set_option maxRecDepth 100000
set_option maxHeartbeats 4000000
set_option linter.unusedVariables false
set_option linter.unusedSimpArgs false
attribute [local irreducible] aw aops aopsD wpo wpoL condW guardW thenQ blockQ finQ Le AGood
theorem clone (l : List UInt8) {n : Nat} (hn : n = l.length) (hl : l.length ≤ 4294967296) : AGood e.P 121 [.ro (.row 1 n (bT l))] (.row 1 l.length (bT l)) [.keep] := by
  subst hn
  refine agood eok (fn := Try.f121) kr_ de_ rfl kr_ ok_ ok_ ?_
  cases l with
  | nil =>
    repeat' (first | refine o_cons ?_ | refine w_ok rfl ?_ | refine o_nil ?_ | refine q_then ?_ | refine sq ?_ | refine aw_seq ?_ | refine aw_reg ?_ | refine w_pT rfl ka rfl ?_ | refine w_pF rfl ka rfl ?_ | refine o_y rfl ka ?_ | refine o_nT rfl ka ?_ | refine o_nF rfl ka ?_ | refine o_nU rfl ?_ | refine aw_cT rfl ka ?_ | refine aw_cF rfl ka ?_ | refine o_gT rfl (fun h => ?_) (fun h => ?_) | refine o_gF rfl (fun h => ?_) (fun h => ?_) | refine aw_cond rfl (fun h => ?_) (fun h => ?_) | refine aw_block ?_ | refine aw_skip ?_ | refine aw_ret ?_ | refine q_ret ?_ | refine q_blockN ?_ | refine q_blockR ?_ | refine aw_exit ?_ | refine q_exit ?_ | refine q_blockE ?_ | refine q_blockX de_ ?_ | refine fin_r rfl ?_ | (refine w_req rfl ?_ ?_; · exact rq_) | (refine w_lk rfl ?_; refine ⟨_, lk_, ?_⟩) | refine w_look (l' := _ :: _) rfl rfl ?_ | refine w_look (l' := []) rfl rfl ?_ | refine w_req rfl ?_ ?_ | refine w_pick rfl (fun b => ?_))
    all_goals rfl
  | cons b l =>
    repeat' (first | refine o_cons ?_ | refine w_ok rfl ?_ | refine o_nil ?_ | refine q_then ?_ | refine sq ?_ | refine aw_seq ?_ | refine aw_reg ?_ | refine w_pT rfl ka rfl ?_ | refine w_pF rfl ka rfl ?_ | refine o_y rfl ka ?_ | refine o_nT rfl ka ?_ | refine o_nF rfl ka ?_ | refine o_nU rfl ?_ | refine aw_cT rfl ka ?_ | refine aw_cF rfl ka ?_ | refine o_gT rfl (fun h => ?_) (fun h => ?_) | refine o_gF rfl (fun h => ?_) (fun h => ?_) | refine aw_cond rfl (fun h => ?_) (fun h => ?_) | refine aw_block ?_ | refine aw_skip ?_ | refine aw_ret ?_ | refine q_ret ?_ | refine q_blockN ?_ | refine q_blockR ?_ | refine aw_exit ?_ | refine q_exit ?_ | refine q_blockE ?_ | refine q_blockX de_ ?_ | refine fin_r rfl ?_ | (refine w_req rfl ?_ ?_; · exact rq_) | (refine w_lk rfl ?_; refine ⟨_, lk_, ?_⟩) | refine w_look (l' := _ :: _) rfl rfl ?_ | refine w_look (l' := []) rfl rfl ?_ | refine w_req rfl ?_ ?_ | refine w_pick rfl (fun b => ?_))
    exact r_row (Nat.zero_add _) rfl
def bigV (l : List UInt8) : Nat := l.foldl (fun n b => n * 256 + b.toNat) 0
theorem bigV_snoc (l : List UInt8) (b : UInt8) : bigV (l ++ [b]) = bigV l * 256 + b.toNat := by
  unfold bigV; rw [List.foldl_append]; rfl
theorem bigV_lt (l : List UInt8) : bigV l < 256 ^ l.length := by
  suffices h : ∀ r : List UInt8, bigV r.reverse < 256 ^ r.length by
    have := h l.reverse
    simpa using this
  intro r
  induction r with
  | nil => decide
  | cons b r ih =>
    rw [List.reverse_cons, bigV_snoc, List.length_cons, Nat.pow_succ]
    have := b.toNat_lt
    omega
/-- the number at a place: k bytes -/
def getOk (len at_ k : Int) : Bool := (decide (1 ≤ k) && decide (k ≤ 7)) && decide (0 ≤ at_) && decide (at_ ≤ len - k)
def getV (l : List UInt8) (at_ k : Int) : Int := if getOk l.length at_ k then bigV ((l.drop at_.toNat).take k.toNat) else 0
theorem or_byte {n x : Nat} (hn : n < 281474976710656) (hx : x < 256) : IntKind.i64.wrap ((BitVec.ofInt IntKind.i64.bits (IntKind.i64.wrap ((n : Int) * 2 ^ (min (8 : Int).toNat IntKind.i64.bits))) ||| BitVec.ofInt IntKind.i64.bits (IntKind.i64.wrap (x : Int))).toNat : Int) = ((n * 256 + x : Nat) : Int) := by
  have e1 : IntKind.i64.wrap ((n : Int) * 2 ^ (min (8 : Int).toNat IntKind.i64.bits)) = ((n * 256 : Nat) : Int) := by
    rw [show min (8 : Int).toNat IntKind.i64.bits = 8 from rfl, wrap64 (by omega) (by omega)]; omega
  rw [e1, wrap64 (n := (x : Int)) (by omega) (by omega), or64 (by omega) (by omega)]
  congr 1
  have := Nat.shiftLeft_add_eq_or_of_lt (i := 8) (b := x) hx n
  rw [Nat.shiftLeft_eq] at this
  exact this.symm
theorem get_no {l : List UInt8} {at_ k : Int} {ps : List PB} (h : ¬ ((1 ≤ k ∧ k ≤ 7) ∧ 0 ≤ at_ ∧ at_ ≤ l.length - k)) : (Tr.tup [Tr.int .i64 0, Tr.bool false], ps) = (Tr.tup [Tr.int .i64 (getV l at_ k), Tr.bool (getOk l.length at_ k)], ps) := by
  have : getOk l.length at_ k = false := by
    unfold getOk
    rw [Bool.eq_false_iff]
    simp only [ne_eq, Bool.and_eq_true, decide_eq_true_eq]
    omega
  unfold getV
  rw [this]
  rfl
theorem get_yes {l : List UInt8} {at_ k : Int} {ps : List PB} (h : (1 ≤ k ∧ k ≤ 7) ∧ 0 ≤ at_ ∧ at_ ≤ l.length - k) : (Tr.tup [Tr.int .i64 (bigV ((l.drop at_.toNat).take k.toNat)), Tr.bool true], ps) = (Tr.tup [Tr.int .i64 (getV l at_ k), Tr.bool (getOk l.length at_ k)], ps) := by
  have : getOk l.length at_ k = true := by
    unfold getOk
    simp only [Bool.and_eq_true, decide_eq_true_eq]
    omega
  unfold getV
  rw [this]
  rfl
theorem bigV_small {l : List UInt8} {i : Nat} (h : i < 7) : bigV (l.take i) < 281474976710656 := by
  refine Nat.lt_of_lt_of_le (bigV_lt _) ?_
  refine Nat.le_trans (Nat.pow_le_pow_right (by decide) (by rw [List.length_take]; omega : (l.take i).length ≤ 6)) (by decide)
theorem bigV_next {l : List UInt8} {i : Nat} (h : i < l.length) : bigV (l.take (i + 1)) = bigV (l.take i) * 256 + (l.getD i 0).toNat := by
  rw [take_succ_get h, bigV_snoc]
theorem getBig (l : List UInt8) {n : Nat} (hn : n = l.length) (at_ k : Int) (hl : l.length ≤ 4294967296) (hk : -4294967296 ≤ k ∧ k ≤ 4294967296) : AGood e.P 120 [.ro (.row 1 n (bT l)), .ro (.int .i64 at_), .ro (.int .i64 k)] (.tup [.int .i64 (getV l at_ k), .bool (getOk l.length at_ k)]) [.keep, .keep, .keep] := by
  subst hn
  refine agood eok (fn := Try.f120) kr_ de_ rfl kr_ ok_ ok_ ?_
  have hw : IntKind.i64.wrap ((l.length : Int) - k) = l.length - k := wrap64 (by omega) (by omega)
  repeat' (first | refine o_cons ?_ | refine w_ok rfl ?_ | refine w_call rfl (inRange ..) ?_ | refine o_nil ?_ | refine q_then ?_ | refine sq ?_ | refine aw_seq ?_ | refine aw_reg ?_ | refine w_pT rfl ka rfl ?_ | refine w_pF rfl ka rfl ?_ | refine o_y rfl ka ?_ | refine o_nT rfl ka ?_ | refine o_nF rfl ka ?_ | refine o_nU rfl ?_ | refine aw_cT rfl ka ?_ | refine aw_cF rfl ka ?_ | refine o_gT rfl (fun h => ?_) (fun h => ?_) | refine o_gF rfl (fun h => ?_) (fun h => ?_) | refine aw_cond rfl (fun h => ?_) (fun h => ?_) | refine aw_block ?_ | refine aw_skip ?_ | refine aw_ret ?_ | refine q_ret ?_ | refine q_blockN ?_ | refine q_blockR ?_ | refine aw_exit ?_ | refine q_exit ?_ | refine q_blockE ?_ | refine q_blockX de_ ?_ | refine fin_r rfl ?_ | (refine w_req rfl ?_ ?_; · exact rq_) | (refine w_lk rfl ?_; refine ⟨_, lk_, ?_⟩) | refine w_look (l' := _ :: _) rfl rfl ?_ | refine w_look (l' := []) rfl rfl ?_ | refine w_req rfl ?_ ?_ | refine w_pick rfl (fun b => ?_))
  · rename_i h1 h2; refine get_no ?_; simp at h1 h2 h; omega
  · rename_i h1 h2; simp at h1 h2 h; rw [wrap64] <;> omega
  · rename_i h1 h2
    simp at h1 h2 h
    rw [hw] at h
    have hk1 : 1 ≤ k ∧ k ≤ 7 := by omega
    have hw2 : IntKind.i64.wrap (at_ + k) = at_ + k := wrap64 (by omega) (by omega)
    obtain ⟨seg, hseg⟩ : ∃ seg, seg = (l.drop at_.toNat).take k.toNat := ⟨_, rfl⟩
    have hsl : seg.length = k.toNat := by rw [hseg, List.length_take, List.length_drop]; omega
    refine loop1 (fun i : Nat => ⟨tbl [(8, .int .i64 (bigV (seg.take i))), (31, .ro none 1 seg.length (bT seg)), (32, .int .i64 seg.length), (33, .int .i64 i)], mbl [], [.ro (some 0) 1 l.length (bT l), .int .i64 at_, .int .i64 k]⟩) (fun i => i ≤ seg.length) (fun i => seg.length - i) 0 (Nat.zero_le _) ?_ ?_
    · have hc : (IntKind.i64.wrap (at_ + k)).toNat - at_.toNat = k.toNat := by rw [hw2]; omega
      (refine le_of [] ?_; repeat' (first | exact trivial | refine an ?_ ?_ | with_reducible rfl | exact bt rfl | exact Or.inl rfl | exact Or.inr rfl | exact Eq.refl _))
      · rw [hsl, hc]
      · rw [hseg, hc]
      · rw [hsl, hc]
    intro i hi
    repeat' (first | refine o_cons ?_ | refine w_ok rfl ?_ | refine o_nil ?_ | refine q_then ?_ | refine sq ?_ | refine aw_seq ?_ | refine aw_reg ?_ | refine w_pT rfl ka rfl ?_ | refine w_pF rfl ka rfl ?_ | refine o_y rfl ka ?_ | refine o_nT rfl ka ?_ | refine o_nF rfl ka ?_ | refine o_nU rfl ?_ | refine aw_cT rfl ka ?_ | refine aw_cF rfl ka ?_ | refine o_gT rfl (fun h => ?_) (fun h => ?_) | refine o_gF rfl (fun h => ?_) (fun h => ?_) | refine aw_cond rfl (fun h => ?_) (fun h => ?_) | refine aw_block ?_ | refine aw_skip ?_ | refine aw_ret ?_ | refine q_ret ?_ | refine q_blockN ?_ | refine q_blockR ?_ | refine aw_exit ?_ | refine q_exit ?_ | refine q_blockE ?_ | refine q_blockX de_ ?_ | refine fin_r rfl ?_ | (refine w_req rfl ?_ ?_; · exact rq_) | (refine w_lk rfl ?_; refine ⟨_, lk_, ?_⟩) | refine w_look (l' := _ :: _) rfl rfl ?_ | refine w_look (l' := []) rfl rfl ?_ | refine w_req rfl ?_ ?_ | refine w_pick rfl (fun b => ?_))
    · have hil : i < seg.length := by simp at h; omega
      refine ⟨i + 1, ⟨by omega, by omega⟩, ?_⟩
      (refine le_of [] ?_; repeat' (first | exact trivial | refine an ?_ ?_ | with_reducible rfl | exact bt rfl | exact Or.inl rfl | exact Or.inr rfl | exact Eq.refl _))
      · rw [bigV_next hil]
        exact or_byte (bigV_small (by omega)) (seg.getD i 0).toNat_lt
      · rw [wrap64] <;> omega
    · have : i = seg.length := by simp at h; omega
      subst this
      rw [List.take_length, hseg]
      exact get_yes ⟨hk1, by omega, by omega⟩
  · rename_i h1; refine get_no ?_; simp at h1 h; omega
  · refine get_no ?_; simp at h; omega
theorem getBigS (l : List UInt8) {n : Nat} (hn : n = l.length) (at_ k : Int) (hl : l.length ≤ 4294967296) (hk : -4294967296 ≤ k ∧ k ≤ 4294967296) : AGood e.P 77 [.ro (.row 1 n (bT l)), .ro (.int .i64 at_), .ro (.int .i64 k)] (.tup [.int .i64 (getV l at_ k), .bool (getOk l.length at_ k)]) [.keep, .keep, .keep] := by
  subst hn
  refine agood eok (fn := Try.f77) kr_ de_ rfl kr_ ok_ ok_ ?_
  have hw : IntKind.i64.wrap ((l.length : Int) - k) = l.length - k := wrap64 (by omega) (by omega)
  repeat' (first | refine o_cons ?_ | refine w_ok rfl ?_ | refine w_call rfl (inRangeS ..) ?_ | refine o_nil ?_ | refine q_then ?_ | refine sq ?_ | refine aw_seq ?_ | refine aw_reg ?_ | refine w_pT rfl ka rfl ?_ | refine w_pF rfl ka rfl ?_ | refine o_y rfl ka ?_ | refine o_nT rfl ka ?_ | refine o_nF rfl ka ?_ | refine o_nU rfl ?_ | refine aw_cT rfl ka ?_ | refine aw_cF rfl ka ?_ | refine o_gT rfl (fun h => ?_) (fun h => ?_) | refine o_gF rfl (fun h => ?_) (fun h => ?_) | refine aw_cond rfl (fun h => ?_) (fun h => ?_) | refine aw_block ?_ | refine aw_skip ?_ | refine aw_ret ?_ | refine q_ret ?_ | refine q_blockN ?_ | refine q_blockR ?_ | refine aw_exit ?_ | refine q_exit ?_ | refine q_blockE ?_ | refine q_blockX de_ ?_ | refine fin_r rfl ?_ | (refine w_req rfl ?_ ?_; · exact rq_) | (refine w_lk rfl ?_; refine ⟨_, lk_, ?_⟩) | refine w_look (l' := _ :: _) rfl rfl ?_ | refine w_look (l' := []) rfl rfl ?_ | refine w_req rfl ?_ ?_ | refine w_pick rfl (fun b => ?_))
  · rename_i h1 h2; refine get_no ?_; simp at h1 h2 h; omega
  · rename_i h1 h2
    simp at h1 h2 h
    rw [hw] at h
    have hk1 : 1 ≤ k ∧ k ≤ 7 := by omega
    obtain ⟨seg, hseg⟩ : ∃ seg, seg = (l.drop at_.toNat).take k.toNat := ⟨_, rfl⟩
    have hsl : seg.length = k.toNat := by rw [hseg, List.length_take, List.length_drop]; omega
    refine loop1 (fun i : Nat => ⟨tbl [(8, .int .i64 (bigV (seg.take i))), (0, .ro none 1 l.length (bT l)), (1, .int .i64 at_), (2, .int .i64 k), (9, .int .i64 i)], mbl [], [.ro (some 0) 1 l.length (bT l), .int .i64 at_, .int .i64 k]⟩) (fun i => i ≤ seg.length) (fun i => seg.length - i) 0 (Nat.zero_le _) ?_ ?_
    · (refine le_of [] ?_; repeat' (first | exact trivial | refine an ?_ ?_ | with_reducible rfl | exact bt rfl | exact Or.inl rfl | exact Or.inr rfl | exact Eq.refl _))
    intro i hi
    have hw2 : IntKind.i64.wrap (at_ + i) = at_ + i := wrap64 (by omega) (by omega)
    repeat' (first | refine o_cons ?_ | refine w_ok rfl ?_ | refine o_nil ?_ | refine q_then ?_ | refine sq ?_ | refine aw_seq ?_ | refine aw_reg ?_ | refine w_pT rfl ka rfl ?_ | refine w_pF rfl ka rfl ?_ | refine o_y rfl ka ?_ | refine o_nT rfl ka ?_ | refine o_nF rfl ka ?_ | refine o_nU rfl ?_ | refine aw_cT rfl ka ?_ | refine aw_cF rfl ka ?_ | refine o_gT rfl (fun h => ?_) (fun h => ?_) | refine o_gF rfl (fun h => ?_) (fun h => ?_) | refine aw_cond rfl (fun h => ?_) (fun h => ?_) | refine aw_block ?_ | refine aw_skip ?_ | refine aw_ret ?_ | refine q_ret ?_ | refine q_blockN ?_ | refine q_blockR ?_ | refine aw_exit ?_ | refine q_exit ?_ | refine q_blockE ?_ | refine q_blockX de_ ?_ | refine fin_r rfl ?_ | (refine w_req rfl ?_ ?_; · exact rq_) | (refine w_lk rfl ?_; refine ⟨_, lk_, ?_⟩) | refine w_look (l' := _ :: _) rfl rfl ?_ | refine w_look (l' := []) rfl rfl ?_ | refine w_req rfl ?_ ?_ | refine w_pick rfl (fun b => ?_))
    · have hil : i < seg.length := by simp at h; omega
      refine ⟨i + 1, ⟨by omega, by omega⟩, ?_⟩
      (refine le_of [] ?_; repeat' (first | exact trivial | refine an ?_ ?_ | with_reducible rfl | exact bt rfl | exact Or.inl rfl | exact Or.inr rfl | exact Eq.refl _))
      · rw [bigV_next hil]
        have hg : seg.getD i 0 = l.getD (IntKind.i64.wrap (at_ + i)).toNat 0 := by
          rw [hw2, hseg]
          simp only [List.getD_eq_getElem?_getD]
          rw [List.getElem?_take, if_pos (by omega), List.getElem?_drop, show (at_ + (i : Int)).toNat = at_.toNat + i by omega]
        rw [hg]
        exact or_byte (bigV_small (by omega)) (l.getD _ 0).toNat_lt
      · rw [wrap64] <;> omega
    · have : i = seg.length := by simp at h; omega
      subst this
      rw [List.take_length, hseg]
      exact get_yes ⟨hk1, by omega, by omega⟩
  · rename_i h1; refine get_no ?_; simp at h1 h; omega
  · refine get_no ?_; simp at h; omega
end Go.Proofs.Ytbkpmljdmlhmhaa
