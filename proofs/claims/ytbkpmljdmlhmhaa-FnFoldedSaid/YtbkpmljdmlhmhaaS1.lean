import Derived.Test.YtbkpmljdmlhmhaaU12
import Derived.Test.YtbkpmljdmlhmhaaE5
namespace Go.Proofs.Ytbkpmljdmlhmhaa
open Go Go.AM Ty
set_option maxRecDepth 100000
set_option maxHeartbeats 4000000
set_option linter.unusedVariables false
set_option linter.unusedSimpArgs false
attribute [local irreducible] aw aops aopsD wpo wpoL condW guardW thenQ blockQ finQ Le AGood
theorem rq_S1 {p : Prop} (h : p := by first | assumption | exact uT_plain _ | exact rq_) : p := h
theorem lk_S1 {p : Prop} (h : p := by first | exact bT_app _ _ | exact uT_el side_ | exact mp_el (f := Tr.str) emp side_ | exact lk_) : p := h
theorem ok_S1 {p : Prop} (h : p := by first | (simp [Tr.okR, Tr.okRL, Tr.plainL, Tr.plain, cells1, Tr.cellB, PB.okRL, PB.okR, bT_plain, sT_plain, oT_plain, nT_plain, uT_plain, up_pl]; done) | exact ok_) : p := h
/-- of bytes: the string of them -/
def strB (l : List UInt8) : ByteArray := ⟨((bT l).map AM.byteTr).toArray⟩
def sameB (a b : List UInt8) : Bool := (strB a).toList == (strB b).toList
theorem bytesEq (a b : List UInt8) {n m : Nat} (hn : n = a.length) (hm : m = b.length) : AGood e.P 137 [.ro (.row 1 n (bT a)), .ro (.row 1 m (bT b))] (.bool (sameB a b)) [.keep, .keep] := by
  subst hn; subst hm
  refine agood eok (fn := Try.f137) kr_ de_ rfl kr_ ok_S1 ok_S1 ?_
  repeat' (first | refine o_cons ?_ | refine w_ok rfl ?_ | refine o_nil ?_ | refine q_then ?_ | refine sq ?_ | refine aw_seq ?_ | refine aw_reg ?_ | refine w_pT rfl ka rfl ?_ | refine w_pF rfl ka rfl ?_ | refine o_y rfl ka ?_ | refine o_nT rfl ka ?_ | refine o_nF rfl ka ?_ | refine o_nU rfl ?_ | refine aw_cT rfl ka ?_ | refine aw_cF rfl ka ?_ | refine o_gT rfl (fun h => ?_) (fun h => ?_) | refine o_gF rfl (fun h => ?_) (fun h => ?_) | refine aw_cond rfl (fun h => ?_) (fun h => ?_) | refine aw_block ?_ | refine aw_skip ?_ | refine aw_ret ?_ | refine q_ret ?_ | refine q_blockN ?_ | refine q_blockR ?_ | refine aw_exit ?_ | refine q_exit ?_ | refine q_blockE ?_ | refine q_blockX de_ ?_ | refine fin_r rfl ?_ | (refine w_req rfl ?_ ?_; · exact rq_S1) | (refine w_lk rfl ?_; refine ⟨_, lk_S1, ?_⟩) | refine w_look (l' := _ :: _) rfl rfl ?_ | refine w_look (l' := []) rfl rfl ?_ | refine w_req rfl ?_ ?_ | refine w_pick rfl (fun b => ?_))
  rfl
/-- two uploads alike -/
def sameU (u v : Upp) : Bool := u.s.toList == v.s.toList && u.w == v.w && u.f == v.f && sameB u.d v.d
theorem sameUp (u v : Upp) {c d : Nat} (hc : c = u.d.length) (hd : d = v.d.length) : AGood e.P 105 [u.pa c, v.pa d] (.bool (sameU u v)) [keep4, keep4] := by
  subst hc; subst hd
  refine agood eok (fn := Try.f105) kr_ de_ rfl kr_ ok_S1 ok_S1 ?_
  repeat' (first | refine o_cons ?_ | refine w_ok rfl ?_ | refine w_call rfl (bytesEq u.d v.d rfl rfl) ?_ | refine o_nil ?_ | refine q_then ?_ | refine sq ?_ | refine aw_seq ?_ | refine aw_reg ?_ | refine w_pT rfl ka rfl ?_ | refine w_pF rfl ka rfl ?_ | refine o_y rfl ka ?_ | refine o_nT rfl ka ?_ | refine o_nF rfl ka ?_ | refine o_nU rfl ?_ | refine aw_cT rfl ka ?_ | refine aw_cF rfl ka ?_ | refine o_gT rfl (fun h => ?_) (fun h => ?_) | refine o_gF rfl (fun h => ?_) (fun h => ?_) | refine aw_cond rfl (fun h => ?_) (fun h => ?_) | refine aw_block ?_ | refine aw_skip ?_ | refine aw_ret ?_ | refine q_ret ?_ | refine q_blockN ?_ | refine q_blockR ?_ | refine aw_exit ?_ | refine q_exit ?_ | refine q_blockE ?_ | refine q_blockX de_ ?_ | refine fin_r rfl ?_ | (refine w_req rfl ?_ ?_; · exact rq_S1) | (refine w_lk rfl ?_; refine ⟨_, lk_S1, ?_⟩) | refine w_look (l' := _ :: _) rfl rfl ?_ | refine w_look (l' := []) rfl rfl ?_ | refine w_req rfl ?_ ?_ | refine w_pick rfl (fun b => ?_))
  all_goals (unfold sameU; simp_all)
def sameUs (a b : List Upp) : Bool := decide (a.length = b.length) && (List.range a.length).all fun i => sameU (a.getD i zeroU) (b.getD i zeroU)
theorem same_all {a b : List Upp} (h : a.length = b.length) (h1 : ∀ j, j < a.length → sameU (a.getD j zeroU) (b.getD j zeroU) = true) : sameUs a b = true := by
  unfold sameUs
  rw [decide_eq_true h, Bool.true_and, List.all_eq_true]
  intro x hx
  exact h1 x (List.mem_range.1 hx)
theorem same_not {a b : List Upp} {i : Nat} (hi : i < a.length) (h1 : sameU (a.getD i zeroU) (b.getD i zeroU) = false) : sameUs a b = false := by
  unfold sameUs
  rw [Bool.and_eq_false_iff]
  refine .inr ?_
  rw [List.all_eq_false]
  exact ⟨i, List.mem_range.2 hi, by rw [h1]; exact Bool.false_ne_true⟩
theorem same_len {a b : List Upp} (h : a.length ≠ b.length) : sameUs a b = false := by
  unfold sameUs
  rw [decide_eq_false h, Bool.false_and]
theorem equalFunc (a b : List Upp) {n m : Nat} (hn : n = a.length) (hm : m = b.length) (ha : a.length ≤ 1048576) (hb : b.length ≤ 1048576) : AGood e.P 104 [.ro (.row 4 n (uT a)), .ro (.row 4 m (uT b)), .fn 105] (.bool (sameUs a b)) [.keep, .keep, .keep] := by
  subst hn; subst hm
  by_cases hl : a.length = b.length
  · have k1 : ((a.length : Int) != (b.length : Int)) = false := by simp; omega
    refine agood eok (fn := Try.f104) kr_ de_ rfl kr_ ok_S1 ok_S1 ?_
    repeat' (first | refine o_cons ?_ | refine w_ok rfl ?_ | refine o_nil ?_ | refine q_then ?_ | refine sq ?_ | refine aw_seq ?_ | refine aw_reg ?_ | refine w_pT rfl ka rfl ?_ | refine w_pF rfl ka rfl ?_ | refine o_y rfl ka ?_ | refine o_nT rfl ka ?_ | refine o_nF rfl ka ?_ | refine o_nU rfl ?_ | refine aw_cT rfl ka ?_ | refine aw_cF rfl ka ?_ | refine o_gT rfl (fun h => ?_) (fun h => ?_) | refine o_gF rfl (fun h => ?_) (fun h => ?_) | refine aw_cond rfl (fun h => ?_) (fun h => ?_) | refine aw_block ?_ | refine aw_skip ?_ | refine aw_ret ?_ | refine q_ret ?_ | refine q_blockN ?_ | refine q_blockR ?_ | refine aw_exit ?_ | refine q_exit ?_ | refine q_blockE ?_ | refine q_blockX de_ ?_ | refine fin_r rfl ?_ | (refine w_req rfl ?_ ?_; · exact rq_S1) | (refine w_lk rfl ?_; refine ⟨_, lk_S1, ?_⟩) | refine w_look (l' := _ :: _) rfl rfl ?_ | refine w_look (l' := []) rfl rfl ?_ | refine w_req rfl ?_ ?_ | refine w_pick rfl (fun b => ?_))
    refine loop1 (fun i : Nat => ⟨tbl [(1, .ro none 4 b.length (uT b)), (2, .fn 105), (15, .ro none 4 a.length (uT a)), (16, .int .i64 a.length), (17, .int .i64 i)], mbl [], [.ro (some 0) 4 a.length (uT a), .ro (some 1) 4 b.length (uT b), .fn 105]⟩) (fun i => i ≤ a.length ∧ ∀ j, j < i → sameU (a.getD j zeroU) (b.getD j zeroU) = true) (fun i => a.length - i) 0 ⟨Nat.zero_le _, fun j hj => by omega⟩ ?_ ?_
    · (refine le_of [] ?_; repeat' (first | exact trivial | refine an ?_ ?_ | with_reducible rfl | exact bt rfl | exact Or.inl rfl | exact Or.inr rfl | exact Eq.refl _))
    rintro i ⟨hi, hj⟩
    rcases Nat.lt_or_ge i a.length with hil | hil
    · have hc : decide ((i : Int) < (a.length : Int)) = true := by simp; omega
      have g1 : 0 ≤ (i : Int) ∧ (i : Int) < (a.length : Int) := by omega
      have g2 : 0 ≤ (i : Int) ∧ (i : Int) < (b.length : Int) := by omega
      have c1 := sameUp (a.getD (i : Int).toNat zeroU) (b.getD (i : Int).toNat zeroU) rfl rfl
      cases hs : sameU (a.getD i zeroU) (b.getD i zeroU) with
      | true =>
        have hs' : sameU (a.getD (i : Int).toNat zeroU) (b.getD (i : Int).toNat zeroU) = true := hs
        rw [hs'] at c1
        repeat' (first | refine o_cons ?_ | refine w_ok rfl ?_ | refine w_call rfl (c1) ?_ | refine o_nil ?_ | refine q_then ?_ | refine sq ?_ | refine aw_seq ?_ | refine aw_reg ?_ | refine w_pT rfl ka rfl ?_ | refine w_pF rfl ka rfl ?_ | refine o_y rfl ka ?_ | refine o_nT rfl ka ?_ | refine o_nF rfl ka ?_ | refine o_nU rfl ?_ | refine aw_cT rfl ka ?_ | refine aw_cF rfl ka ?_ | refine o_gT rfl (fun h => ?_) (fun h => ?_) | refine o_gF rfl (fun h => ?_) (fun h => ?_) | refine aw_cond rfl (fun h => ?_) (fun h => ?_) | refine aw_block ?_ | refine aw_skip ?_ | refine aw_ret ?_ | refine q_ret ?_ | refine q_blockN ?_ | refine q_blockR ?_ | refine aw_exit ?_ | refine q_exit ?_ | refine q_blockE ?_ | refine q_blockX de_ ?_ | refine fin_r rfl ?_ | (refine w_req rfl ?_ ?_; · exact rq_S1) | (refine w_lk rfl ?_; refine ⟨_, lk_S1, ?_⟩) | refine w_look (l' := _ :: _) rfl rfl ?_ | refine w_look (l' := []) rfl rfl ?_ | refine w_req rfl ?_ ?_ | refine w_pick rfl (fun b => ?_))
        refine ⟨i + 1, ⟨⟨by omega, fun j h => ?_⟩, by omega⟩, ?_⟩
        · rcases Nat.lt_or_ge j i with h1 | h1
          · exact hj j h1
          · have : j = i := by omega
            subst this
            exact hs
        (refine le_of [] ?_; repeat' (first | exact trivial | refine an ?_ ?_ | with_reducible rfl | exact bt rfl | exact Or.inl rfl | exact Or.inr rfl | exact Eq.refl _))
        first | omega | (simp; done) | (rw [wrap64] <;> omega) | (simp; omega)
      | false =>
        have hs' : sameU (a.getD (i : Int).toNat zeroU) (b.getD (i : Int).toNat zeroU) = false := hs
        rw [hs'] at c1
        repeat' (first | refine o_cons ?_ | refine w_ok rfl ?_ | refine w_call rfl (c1) ?_ | refine o_nil ?_ | refine q_then ?_ | refine sq ?_ | refine aw_seq ?_ | refine aw_reg ?_ | refine w_pT rfl ka rfl ?_ | refine w_pF rfl ka rfl ?_ | refine o_y rfl ka ?_ | refine o_nT rfl ka ?_ | refine o_nF rfl ka ?_ | refine o_nU rfl ?_ | refine aw_cT rfl ka ?_ | refine aw_cF rfl ka ?_ | refine o_gT rfl (fun h => ?_) (fun h => ?_) | refine o_gF rfl (fun h => ?_) (fun h => ?_) | refine aw_cond rfl (fun h => ?_) (fun h => ?_) | refine aw_block ?_ | refine aw_skip ?_ | refine aw_ret ?_ | refine q_ret ?_ | refine q_blockN ?_ | refine q_blockR ?_ | refine aw_exit ?_ | refine q_exit ?_ | refine q_blockE ?_ | refine q_blockX de_ ?_ | refine fin_r rfl ?_ | (refine w_req rfl ?_ ?_; · exact rq_S1) | (refine w_lk rfl ?_; refine ⟨_, lk_S1, ?_⟩) | refine w_look (l' := _ :: _) rfl rfl ?_ | refine w_look (l' := []) rfl rfl ?_ | refine w_req rfl ?_ ?_ | refine w_pick rfl (fun b => ?_))
        rw [same_not hil hs]
    · have hc : decide ((i : Int) < (a.length : Int)) = false := by simp; omega
      have : i = a.length := by omega
      subst this
      repeat' (first | refine o_cons ?_ | refine w_ok rfl ?_ | refine o_nil ?_ | refine q_then ?_ | refine sq ?_ | refine aw_seq ?_ | refine aw_reg ?_ | refine w_pT rfl ka rfl ?_ | refine w_pF rfl ka rfl ?_ | refine o_y rfl ka ?_ | refine o_nT rfl ka ?_ | refine o_nF rfl ka ?_ | refine o_nU rfl ?_ | refine aw_cT rfl ka ?_ | refine aw_cF rfl ka ?_ | refine o_gT rfl (fun h => ?_) (fun h => ?_) | refine o_gF rfl (fun h => ?_) (fun h => ?_) | refine aw_cond rfl (fun h => ?_) (fun h => ?_) | refine aw_block ?_ | refine aw_skip ?_ | refine aw_ret ?_ | refine q_ret ?_ | refine q_blockN ?_ | refine q_blockR ?_ | refine aw_exit ?_ | refine q_exit ?_ | refine q_blockE ?_ | refine q_blockX de_ ?_ | refine fin_r rfl ?_ | (refine w_req rfl ?_ ?_; · exact rq_S1) | (refine w_lk rfl ?_; refine ⟨_, lk_S1, ?_⟩) | refine w_look (l' := _ :: _) rfl rfl ?_ | refine w_look (l' := []) rfl rfl ?_ | refine w_req rfl ?_ ?_ | refine w_pick rfl (fun b => ?_))
      rw [same_all hl hj]
  · have k1 : ((a.length : Int) != (b.length : Int)) = true := by simp; omega
    refine agood eok (fn := Try.f104) kr_ de_ rfl kr_ ok_S1 ok_S1 ?_
    repeat' (first | refine o_cons ?_ | refine w_ok rfl ?_ | refine o_nil ?_ | refine q_then ?_ | refine sq ?_ | refine aw_seq ?_ | refine aw_reg ?_ | refine w_pT rfl ka rfl ?_ | refine w_pF rfl ka rfl ?_ | refine o_y rfl ka ?_ | refine o_nT rfl ka ?_ | refine o_nF rfl ka ?_ | refine o_nU rfl ?_ | refine aw_cT rfl ka ?_ | refine aw_cF rfl ka ?_ | refine o_gT rfl (fun h => ?_) (fun h => ?_) | refine o_gF rfl (fun h => ?_) (fun h => ?_) | refine aw_cond rfl (fun h => ?_) (fun h => ?_) | refine aw_block ?_ | refine aw_skip ?_ | refine aw_ret ?_ | refine q_ret ?_ | refine q_blockN ?_ | refine q_blockR ?_ | refine aw_exit ?_ | refine q_exit ?_ | refine q_blockE ?_ | refine q_blockX de_ ?_ | refine fin_r rfl ?_ | (refine w_req rfl ?_ ?_; · exact rq_S1) | (refine w_lk rfl ?_; refine ⟨_, lk_S1, ?_⟩) | refine w_look (l' := _ :: _) rfl rfl ?_ | refine w_look (l' := []) rfl rfl ?_ | refine w_req rfl ?_ ?_ | refine w_pick rfl (fun b => ?_))
    rw [same_len hl]
theorem sameUpsS (a b : List Upp) {n m : Nat} (hn : n = a.length) (hm : m = b.length) (ha : a.length ≤ 1048576) (hb : b.length ≤ 1048576) : AGood e.P 102 [.ro (.row 4 n (uT a)), .ro (.row 4 m (uT b))] (.bool (sameUs a b)) [.keep, .keep] := by
  subst hn; subst hm
  by_cases hl : a.length = b.length
  · have k1 : ((a.length : Int) != (b.length : Int)) = false := by simp; omega
    refine agood eok (fn := Try.f102) kr_ de_ rfl kr_ ok_S1 ok_S1 ?_
    repeat' (first | refine o_cons ?_ | refine w_ok rfl ?_ | refine o_nil ?_ | refine q_then ?_ | refine sq ?_ | refine aw_seq ?_ | refine aw_reg ?_ | refine w_pT rfl ka rfl ?_ | refine w_pF rfl ka rfl ?_ | refine o_y rfl ka ?_ | refine o_nT rfl ka ?_ | refine o_nF rfl ka ?_ | refine o_nU rfl ?_ | refine aw_cT rfl ka ?_ | refine aw_cF rfl ka ?_ | refine o_gT rfl (fun h => ?_) (fun h => ?_) | refine o_gF rfl (fun h => ?_) (fun h => ?_) | refine aw_cond rfl (fun h => ?_) (fun h => ?_) | refine aw_block ?_ | refine aw_skip ?_ | refine aw_ret ?_ | refine q_ret ?_ | refine q_blockN ?_ | refine q_blockR ?_ | refine aw_exit ?_ | refine q_exit ?_ | refine q_blockE ?_ | refine q_blockX de_ ?_ | refine fin_r rfl ?_ | (refine w_req rfl ?_ ?_; · exact rq_S1) | (refine w_lk rfl ?_; refine ⟨_, lk_S1, ?_⟩) | refine w_look (l' := _ :: _) rfl rfl ?_ | refine w_look (l' := []) rfl rfl ?_ | refine w_req rfl ?_ ?_ | refine w_pick rfl (fun b => ?_))
    refine loop1 (fun i : Nat => ⟨tbl [(0, .ro none 4 a.length (uT a)), (1, .ro none 4 b.length (uT b)), (5, .int .i64 i)], mbl [], [.ro (some 0) 4 a.length (uT a), .ro (some 1) 4 b.length (uT b)]⟩) (fun i => i ≤ a.length ∧ ∀ j, j < i → sameU (a.getD j zeroU) (b.getD j zeroU) = true) (fun i => a.length - i) 0 ⟨Nat.zero_le _, fun j hj => by omega⟩ ?_ ?_
    · (refine le_of [] ?_; repeat' (first | exact trivial | refine an ?_ ?_ | with_reducible rfl | exact bt rfl | exact Or.inl rfl | exact Or.inr rfl | exact Eq.refl _))
    rintro i ⟨hi, hj⟩
    rcases Nat.lt_or_ge i a.length with hil | hil
    · have hc : decide ((i : Int) < (a.length : Int)) = true := by simp; omega
      have g1 : 0 ≤ (i : Int) ∧ (i : Int) < (a.length : Int) := by omega
      have g2 : 0 ≤ (i : Int) ∧ (i : Int) < (b.length : Int) := by omega
      cases h1 : (a.getD i zeroU).s.toList == (b.getD i zeroU).s.toList with
      | false =>
        have h1' : ((a.getD (i : Int).toNat zeroU).s.toList != (b.getD (i : Int).toNat zeroU).s.toList) = true := by rw [Int.toNat_natCast, bne, h1]; rfl
        repeat' (first | refine o_cons ?_ | refine w_ok rfl ?_ | refine o_nil ?_ | refine q_then ?_ | refine sq ?_ | refine aw_seq ?_ | refine aw_reg ?_ | refine w_pT rfl ka rfl ?_ | refine w_pF rfl ka rfl ?_ | refine o_y rfl ka ?_ | refine o_nT rfl ka ?_ | refine o_nF rfl ka ?_ | refine o_nU rfl ?_ | refine aw_cT rfl ka ?_ | refine aw_cF rfl ka ?_ | refine o_gT rfl (fun h => ?_) (fun h => ?_) | refine o_gF rfl (fun h => ?_) (fun h => ?_) | refine aw_cond rfl (fun h => ?_) (fun h => ?_) | refine aw_block ?_ | refine aw_skip ?_ | refine aw_ret ?_ | refine q_ret ?_ | refine q_blockN ?_ | refine q_blockR ?_ | refine aw_exit ?_ | refine q_exit ?_ | refine q_blockE ?_ | refine q_blockX de_ ?_ | refine fin_r rfl ?_ | (refine w_req rfl ?_ ?_; · exact rq_S1) | (refine w_lk rfl ?_; refine ⟨_, lk_S1, ?_⟩) | refine w_look (l' := _ :: _) rfl rfl ?_ | refine w_look (l' := []) rfl rfl ?_ | refine w_req rfl ?_ ?_ | refine w_pick rfl (fun b => ?_) | refine aw_drw kr_ ?_ | refine d_cons ?_ | refine l_ok rfl ?_ | refine d_nil kr_ ?_ | refine d_y rfl ka ?_ | refine d_nT rfl ka ?_ | refine d_nF rfl ka ?_ | refine d_nU rfl ?_ | refine l_pT rfl ka rfl ?_ | refine l_pF rfl ka rfl ?_ | refine d_gT rfl (fun h => ?_) (fun h => ?_) | refine d_gF rfl (fun h => ?_) (fun h => ?_) | (refine l_req rfl ?_ ?_; · exact rq_S1) | (refine l_lk rfl ?_; refine ⟨_, lk_S1, ?_⟩) | refine l_look (l' := _ :: _) rfl rfl ?_ | refine l_look (l' := []) rfl rfl ?_ | refine l_req rfl ?_ ?_)
        rw [same_not hil (by unfold sameU; rw [h1]; rfl)]
      | true =>
        have h1' : ((a.getD (i : Int).toNat zeroU).s.toList != (b.getD (i : Int).toNat zeroU).s.toList) = false := by rw [Int.toNat_natCast, bne, h1]; rfl
        cases h2 : (a.getD i zeroU).w == (b.getD i zeroU).w with
        | false =>
          have h2' : ((a.getD (i : Int).toNat zeroU).w != (b.getD (i : Int).toNat zeroU).w) = true := by rw [Int.toNat_natCast, bne, h2]; rfl
          repeat' (first | refine o_cons ?_ | refine w_ok rfl ?_ | refine o_nil ?_ | refine q_then ?_ | refine sq ?_ | refine aw_seq ?_ | refine aw_reg ?_ | refine w_pT rfl ka rfl ?_ | refine w_pF rfl ka rfl ?_ | refine o_y rfl ka ?_ | refine o_nT rfl ka ?_ | refine o_nF rfl ka ?_ | refine o_nU rfl ?_ | refine aw_cT rfl ka ?_ | refine aw_cF rfl ka ?_ | refine o_gT rfl (fun h => ?_) (fun h => ?_) | refine o_gF rfl (fun h => ?_) (fun h => ?_) | refine aw_cond rfl (fun h => ?_) (fun h => ?_) | refine aw_block ?_ | refine aw_skip ?_ | refine aw_ret ?_ | refine q_ret ?_ | refine q_blockN ?_ | refine q_blockR ?_ | refine aw_exit ?_ | refine q_exit ?_ | refine q_blockE ?_ | refine q_blockX de_ ?_ | refine fin_r rfl ?_ | (refine w_req rfl ?_ ?_; · exact rq_S1) | (refine w_lk rfl ?_; refine ⟨_, lk_S1, ?_⟩) | refine w_look (l' := _ :: _) rfl rfl ?_ | refine w_look (l' := []) rfl rfl ?_ | refine w_req rfl ?_ ?_ | refine w_pick rfl (fun b => ?_) | refine aw_drw kr_ ?_ | refine d_cons ?_ | refine l_ok rfl ?_ | refine d_nil kr_ ?_ | refine d_y rfl ka ?_ | refine d_nT rfl ka ?_ | refine d_nF rfl ka ?_ | refine d_nU rfl ?_ | refine l_pT rfl ka rfl ?_ | refine l_pF rfl ka rfl ?_ | refine d_gT rfl (fun h => ?_) (fun h => ?_) | refine d_gF rfl (fun h => ?_) (fun h => ?_) | (refine l_req rfl ?_ ?_; · exact rq_S1) | (refine l_lk rfl ?_; refine ⟨_, lk_S1, ?_⟩) | refine l_look (l' := _ :: _) rfl rfl ?_ | refine l_look (l' := []) rfl rfl ?_ | refine l_req rfl ?_ ?_)
          rw [same_not hil (by unfold sameU; rw [h1, h2]; rfl)]
        | true =>
          have h2' : ((a.getD (i : Int).toNat zeroU).w != (b.getD (i : Int).toNat zeroU).w) = false := by rw [Int.toNat_natCast, bne, h2]; rfl
          cases h3 : (a.getD i zeroU).f == (b.getD i zeroU).f with
          | false =>
            have h3' : ((a.getD (i : Int).toNat zeroU).f != (b.getD (i : Int).toNat zeroU).f) = true := by rw [Int.toNat_natCast, bne, h3]; rfl
            repeat' (first | refine o_cons ?_ | refine w_ok rfl ?_ | refine o_nil ?_ | refine q_then ?_ | refine sq ?_ | refine aw_seq ?_ | refine aw_reg ?_ | refine w_pT rfl ka rfl ?_ | refine w_pF rfl ka rfl ?_ | refine o_y rfl ka ?_ | refine o_nT rfl ka ?_ | refine o_nF rfl ka ?_ | refine o_nU rfl ?_ | refine aw_cT rfl ka ?_ | refine aw_cF rfl ka ?_ | refine o_gT rfl (fun h => ?_) (fun h => ?_) | refine o_gF rfl (fun h => ?_) (fun h => ?_) | refine aw_cond rfl (fun h => ?_) (fun h => ?_) | refine aw_block ?_ | refine aw_skip ?_ | refine aw_ret ?_ | refine q_ret ?_ | refine q_blockN ?_ | refine q_blockR ?_ | refine aw_exit ?_ | refine q_exit ?_ | refine q_blockE ?_ | refine q_blockX de_ ?_ | refine fin_r rfl ?_ | (refine w_req rfl ?_ ?_; · exact rq_S1) | (refine w_lk rfl ?_; refine ⟨_, lk_S1, ?_⟩) | refine w_look (l' := _ :: _) rfl rfl ?_ | refine w_look (l' := []) rfl rfl ?_ | refine w_req rfl ?_ ?_ | refine w_pick rfl (fun b => ?_) | refine aw_drw kr_ ?_ | refine d_cons ?_ | refine l_ok rfl ?_ | refine d_nil kr_ ?_ | refine d_y rfl ka ?_ | refine d_nT rfl ka ?_ | refine d_nF rfl ka ?_ | refine d_nU rfl ?_ | refine l_pT rfl ka rfl ?_ | refine l_pF rfl ka rfl ?_ | refine d_gT rfl (fun h => ?_) (fun h => ?_) | refine d_gF rfl (fun h => ?_) (fun h => ?_) | (refine l_req rfl ?_ ?_; · exact rq_S1) | (refine l_lk rfl ?_; refine ⟨_, lk_S1, ?_⟩) | refine l_look (l' := _ :: _) rfl rfl ?_ | refine l_look (l' := []) rfl rfl ?_ | refine l_req rfl ?_ ?_)
            rw [same_not hil (by unfold sameU; rw [h1, h2, h3]; rfl)]
          | true =>
            have h3' : ((a.getD (i : Int).toNat zeroU).f != (b.getD (i : Int).toNat zeroU).f) = false := by rw [Int.toNat_natCast, bne, h3]; rfl
            cases h4 : sameB (a.getD i zeroU).d (b.getD i zeroU).d with
            | false =>
              have h4' : ((strB (a.getD (i : Int).toNat zeroU).d).toList != (strB (b.getD (i : Int).toNat zeroU).d).toList) = true := by unfold sameB at h4; rw [Int.toNat_natCast, bne, h4]; rfl
              unfold strB at h4'
              repeat' (first | refine o_cons ?_ | refine w_ok rfl ?_ | refine o_nil ?_ | refine q_then ?_ | refine sq ?_ | refine aw_seq ?_ | refine aw_reg ?_ | refine w_pT rfl ka rfl ?_ | refine w_pF rfl ka rfl ?_ | refine o_y rfl ka ?_ | refine o_nT rfl ka ?_ | refine o_nF rfl ka ?_ | refine o_nU rfl ?_ | refine aw_cT rfl ka ?_ | refine aw_cF rfl ka ?_ | refine o_gT rfl (fun h => ?_) (fun h => ?_) | refine o_gF rfl (fun h => ?_) (fun h => ?_) | refine aw_cond rfl (fun h => ?_) (fun h => ?_) | refine aw_block ?_ | refine aw_skip ?_ | refine aw_ret ?_ | refine q_ret ?_ | refine q_blockN ?_ | refine q_blockR ?_ | refine aw_exit ?_ | refine q_exit ?_ | refine q_blockE ?_ | refine q_blockX de_ ?_ | refine fin_r rfl ?_ | (refine w_req rfl ?_ ?_; · exact rq_S1) | (refine w_lk rfl ?_; refine ⟨_, lk_S1, ?_⟩) | refine w_look (l' := _ :: _) rfl rfl ?_ | refine w_look (l' := []) rfl rfl ?_ | refine w_req rfl ?_ ?_ | refine w_pick rfl (fun b => ?_) | refine aw_drw kr_ ?_ | refine d_cons ?_ | refine l_ok rfl ?_ | refine d_nil kr_ ?_ | refine d_y rfl ka ?_ | refine d_nT rfl ka ?_ | refine d_nF rfl ka ?_ | refine d_nU rfl ?_ | refine l_pT rfl ka rfl ?_ | refine l_pF rfl ka rfl ?_ | refine d_gT rfl (fun h => ?_) (fun h => ?_) | refine d_gF rfl (fun h => ?_) (fun h => ?_) | (refine l_req rfl ?_ ?_; · exact rq_S1) | (refine l_lk rfl ?_; refine ⟨_, lk_S1, ?_⟩) | refine l_look (l' := _ :: _) rfl rfl ?_ | refine l_look (l' := []) rfl rfl ?_ | refine l_req rfl ?_ ?_)
              rw [same_not hil (by unfold sameU; rw [h1, h2, h3, h4]; rfl)]
            | true =>
              have h4' : ((strB (a.getD (i : Int).toNat zeroU).d).toList != (strB (b.getD (i : Int).toNat zeroU).d).toList) = false := by unfold sameB at h4; rw [Int.toNat_natCast, bne, h4]; rfl
              unfold strB at h4'
              repeat' (first | refine o_cons ?_ | refine w_ok rfl ?_ | refine o_nil ?_ | refine q_then ?_ | refine sq ?_ | refine aw_seq ?_ | refine aw_reg ?_ | refine w_pT rfl ka rfl ?_ | refine w_pF rfl ka rfl ?_ | refine o_y rfl ka ?_ | refine o_nT rfl ka ?_ | refine o_nF rfl ka ?_ | refine o_nU rfl ?_ | refine aw_cT rfl ka ?_ | refine aw_cF rfl ka ?_ | refine o_gT rfl (fun h => ?_) (fun h => ?_) | refine o_gF rfl (fun h => ?_) (fun h => ?_) | refine aw_cond rfl (fun h => ?_) (fun h => ?_) | refine aw_block ?_ | refine aw_skip ?_ | refine aw_ret ?_ | refine q_ret ?_ | refine q_blockN ?_ | refine q_blockR ?_ | refine aw_exit ?_ | refine q_exit ?_ | refine q_blockE ?_ | refine q_blockX de_ ?_ | refine fin_r rfl ?_ | (refine w_req rfl ?_ ?_; · exact rq_S1) | (refine w_lk rfl ?_; refine ⟨_, lk_S1, ?_⟩) | refine w_look (l' := _ :: _) rfl rfl ?_ | refine w_look (l' := []) rfl rfl ?_ | refine w_req rfl ?_ ?_ | refine w_pick rfl (fun b => ?_) | refine aw_drw kr_ ?_ | refine d_cons ?_ | refine l_ok rfl ?_ | refine d_nil kr_ ?_ | refine d_y rfl ka ?_ | refine d_nT rfl ka ?_ | refine d_nF rfl ka ?_ | refine d_nU rfl ?_ | refine l_pT rfl ka rfl ?_ | refine l_pF rfl ka rfl ?_ | refine d_gT rfl (fun h => ?_) (fun h => ?_) | refine d_gF rfl (fun h => ?_) (fun h => ?_) | (refine l_req rfl ?_ ?_; · exact rq_S1) | (refine l_lk rfl ?_; refine ⟨_, lk_S1, ?_⟩) | refine l_look (l' := _ :: _) rfl rfl ?_ | refine l_look (l' := []) rfl rfl ?_ | refine l_req rfl ?_ ?_)
              refine ⟨i + 1, ⟨⟨by omega, fun j h => ?_⟩, by omega⟩, ?_⟩
              · rcases Nat.lt_or_ge j i with h5 | h5
                · exact hj j h5
                · have : j = i := by omega
                  subst this
                  unfold sameU; rw [h1, h2, h3, h4]; rfl
              (refine le_of [] ?_; repeat' (first | exact trivial | refine an ?_ ?_ | with_reducible rfl | exact bt rfl | exact Or.inl rfl | exact Or.inr rfl | exact Eq.refl _))
              first | omega | (simp; done) | (rw [wrap64] <;> omega) | (simp; omega)
    · have hc : decide ((i : Int) < (a.length : Int)) = false := by simp; omega
      have : i = a.length := by omega
      subst this
      repeat' (first | refine o_cons ?_ | refine w_ok rfl ?_ | refine o_nil ?_ | refine q_then ?_ | refine sq ?_ | refine aw_seq ?_ | refine aw_reg ?_ | refine w_pT rfl ka rfl ?_ | refine w_pF rfl ka rfl ?_ | refine o_y rfl ka ?_ | refine o_nT rfl ka ?_ | refine o_nF rfl ka ?_ | refine o_nU rfl ?_ | refine aw_cT rfl ka ?_ | refine aw_cF rfl ka ?_ | refine o_gT rfl (fun h => ?_) (fun h => ?_) | refine o_gF rfl (fun h => ?_) (fun h => ?_) | refine aw_cond rfl (fun h => ?_) (fun h => ?_) | refine aw_block ?_ | refine aw_skip ?_ | refine aw_ret ?_ | refine q_ret ?_ | refine q_blockN ?_ | refine q_blockR ?_ | refine aw_exit ?_ | refine q_exit ?_ | refine q_blockE ?_ | refine q_blockX de_ ?_ | refine fin_r rfl ?_ | (refine w_req rfl ?_ ?_; · exact rq_S1) | (refine w_lk rfl ?_; refine ⟨_, lk_S1, ?_⟩) | refine w_look (l' := _ :: _) rfl rfl ?_ | refine w_look (l' := []) rfl rfl ?_ | refine w_req rfl ?_ ?_ | refine w_pick rfl (fun b => ?_))
      rw [same_all hl hj]
  · have k1 : ((a.length : Int) != (b.length : Int)) = true := by simp; omega
    refine agood eok (fn := Try.f102) kr_ de_ rfl kr_ ok_S1 ok_S1 ?_
    repeat' (first | refine o_cons ?_ | refine w_ok rfl ?_ | refine o_nil ?_ | refine q_then ?_ | refine sq ?_ | refine aw_seq ?_ | refine aw_reg ?_ | refine w_pT rfl ka rfl ?_ | refine w_pF rfl ka rfl ?_ | refine o_y rfl ka ?_ | refine o_nT rfl ka ?_ | refine o_nF rfl ka ?_ | refine o_nU rfl ?_ | refine aw_cT rfl ka ?_ | refine aw_cF rfl ka ?_ | refine o_gT rfl (fun h => ?_) (fun h => ?_) | refine o_gF rfl (fun h => ?_) (fun h => ?_) | refine aw_cond rfl (fun h => ?_) (fun h => ?_) | refine aw_block ?_ | refine aw_skip ?_ | refine aw_ret ?_ | refine q_ret ?_ | refine q_blockN ?_ | refine q_blockR ?_ | refine aw_exit ?_ | refine q_exit ?_ | refine q_blockE ?_ | refine q_blockX de_ ?_ | refine fin_r rfl ?_ | (refine w_req rfl ?_ ?_; · exact rq_S1) | (refine w_lk rfl ?_; refine ⟨_, lk_S1, ?_⟩) | refine w_look (l' := _ :: _) rfl rfl ?_ | refine w_look (l' := []) rfl rfl ?_ | refine w_req rfl ?_ ?_ | refine w_pick rfl (fun b => ?_))
    rw [same_len hl]
end Go.Proofs.Ytbkpmljdmlhmhaa
