import Derived.Test.YtbkpmljdmlhmhaaS1
namespace Go.Proofs.Ytbkpmljdmlhmhaa
open Go Go.AM Ty
set_option maxRecDepth 100000
set_option maxHeartbeats 4000000
set_option linter.unusedVariables false
set_option linter.unusedSimpArgs false
attribute [local irreducible] aw aops aopsD wpo wpoL condW guardW thenQ blockQ finQ Le AGood
theorem rq_S2 {p : Prop} (h : p := by first | assumption | exact uT_plain _ | exact rq_) : p := h
theorem lk_S2 {p : Prop} (h : p := by first | exact bT_app _ _ | exact mp_el (f := Tr.str) emp side_ | exact uT_el side_ | exact uT_snoc _ rfl | exact List.nil_append _ | exact lk_) : p := h
theorem ok_S2 {p : Prop} (h : p := by first | (simp [Tr.okR, Tr.okRL, Tr.plainL, Tr.plain, cells1, Tr.cellB, PB.okRL, PB.okR, bT_plain, sT_plain, oT_plain, nT_plain, uT_plain, up_pl]; done) | exact ok_) : p := h
/-- a disk is right -/
def dOk (a b : List ByteArray) : Bool := decide (a.length = b.length) && decide (a.length ≤ 200) && (List.range a.length).all fun i => decide ((a.getD i emp).size ≤ 64) && decide ((b.getD i emp).size ≤ 64)
theorem dOk_all {a b : List ByteArray} (h : a.length = b.length) (h2 : a.length ≤ 200) (h1 : ∀ j, j < a.length → (a.getD j emp).size ≤ 64 ∧ (b.getD j emp).size ≤ 64) : dOk a b = true := by
  unfold dOk
  rw [decide_eq_true h, decide_eq_true h2, Bool.true_and, Bool.true_and, List.all_eq_true]
  intro x hx
  have := h1 x (List.mem_range.1 hx)
  rw [decide_eq_true this.1, decide_eq_true this.2]; rfl
theorem dOk_not {a b : List ByteArray} {i : Nat} (hi : i < a.length) (h1 : ¬ ((a.getD i emp).size ≤ 64 ∧ (b.getD i emp).size ≤ 64)) : dOk a b = false := by
  unfold dOk
  rw [Bool.and_eq_false_iff]
  refine .inr ?_
  rw [List.all_eq_false]
  exact ⟨i, List.mem_range.2 hi, by rw [Bool.and_eq_true, decide_eq_true_eq, decide_eq_true_eq]; exact h1⟩
theorem dOk_len {a b : List ByteArray} (h : a.length ≠ b.length) : dOk a b = false := by
  unfold dOk
  rw [decide_eq_false h, Bool.false_and, Bool.false_and]
theorem dOk_big {a b : List ByteArray} (h : ¬ a.length ≤ 200) : dOk a b = false := by
  unfold dOk
  rw [decide_eq_false h, Bool.and_false, Bool.false_and]
theorem dOk_sz {a b : List ByteArray} (h : dOk a b = true) : a.length = b.length ∧ a.length ≤ 200 ∧ (∀ s ∈ a, s.size ≤ 64) ∧ ∀ s ∈ b, s.size ≤ 64 := by
  unfold dOk at h
  simp only [Bool.and_eq_true, decide_eq_true_eq, List.all_eq_true] at h
  obtain ⟨⟨h1, h2⟩, h3⟩ := h
  refine ⟨h1, h2, fun s hs => ?_, fun s hs => ?_⟩
  · obtain ⟨j, hj, rfl⟩ := List.getElem_of_mem hs
    have := (h3 j (List.mem_range.2 hj)).1
    rw [List.getD_eq_getElem?_getD, List.getElem?_eq_getElem hj] at this
    exact this
  · obtain ⟨j, hj, rfl⟩ := List.getElem_of_mem hs
    have := (h3 j (List.mem_range.2 (by omega))).2
    rw [List.getD_eq_getElem?_getD, List.getElem?_eq_getElem hj] at this
    exact this
theorem diskOk (a b : List ByteArray) {m n : Nat} (hm : m = a.length) (hn : n = b.length) : AGood e.P 103 [dkR a b m n] (.bool (dOk a b)) [keep2] := by
  subst hm; subst hn
  by_cases hl : a.length = b.length
  · have k1 : ((a.length : Int) != (b.length : Int)) = false := by simp; omega
    by_cases h2 : a.length ≤ 200
    · have k2 : decide ((a.length : Int) > 200) = false := by simp; omega
      refine agood eok (fn := Try.f103) kr_ de_ rfl kr_ ok_S2 ok_S2 ?_
      repeat' (first | refine o_cons ?_ | refine w_ok rfl ?_ | refine o_nil ?_ | refine q_then ?_ | refine sq ?_ | refine aw_seq ?_ | refine aw_reg ?_ | refine w_pT rfl ka rfl ?_ | refine w_pF rfl ka rfl ?_ | refine o_y rfl ka ?_ | refine o_nT rfl ka ?_ | refine o_nF rfl ka ?_ | refine o_nU rfl ?_ | refine aw_cT rfl ka ?_ | refine aw_cF rfl ka ?_ | refine o_gT rfl (fun h => ?_) (fun h => ?_) | refine o_gF rfl (fun h => ?_) (fun h => ?_) | refine aw_cond rfl (fun h => ?_) (fun h => ?_) | refine aw_block ?_ | refine aw_skip ?_ | refine aw_ret ?_ | refine q_ret ?_ | refine q_blockN ?_ | refine q_blockR ?_ | refine aw_exit ?_ | refine q_exit ?_ | refine q_blockE ?_ | refine q_blockX de_ ?_ | refine fin_r rfl ?_ | (refine w_req rfl ?_ ?_; · exact rq_S2) | (refine w_lk rfl ?_; refine ⟨_, lk_S2, ?_⟩) | refine w_look (l' := _ :: _) rfl rfl ?_ | refine w_look (l' := []) rfl rfl ?_ | refine w_req rfl ?_ ?_ | refine w_pick rfl (fun b => ?_))
      refine loop1 (fun i : Nat => ⟨tbl [(1, .ptr 2000 0 0 0), (19, .int .i64 a.length), (20, .int .i64 i)], mbl [(2000, .box 0 42 [.ro none 1 a.length (sT a), .ro none 1 b.length (sT b)])], [.agg [.ro (some 0) 1 a.length (sT a), .ro (some 1) 1 b.length (sT b)]]⟩) (fun i => i ≤ a.length ∧ ∀ j, j < i → (a.getD j emp).size ≤ 64 ∧ (b.getD j emp).size ≤ 64) (fun i => a.length - i) 0 ⟨Nat.zero_le _, fun j hj => by omega⟩ ?_ ?_
      · (refine le_of [(2000, 2000)] ?_; repeat' (first | exact trivial | refine an ?_ ?_ | with_reducible rfl | exact bt rfl | exact Or.inl rfl | exact Or.inr rfl | exact Eq.refl _))
      rintro i ⟨hi, hj⟩
      rcases Nat.lt_or_ge i a.length with hil | hil
      · have hc : decide ((i : Int) < (a.length : Int)) = true := by simp; omega
        have g1 : 0 ≤ (i : Int) ∧ (i : Int) < (a.length : Int) := by omega
        have g2 : 0 ≤ (i : Int) ∧ (i : Int) < (b.length : Int) := by omega
        by_cases h3 : (a.getD i emp).size ≤ 64
        · have k3 : decide (((a.getD (i : Int).toNat emp).size : Int) > 64) = false := by rw [Int.toNat_natCast]; first | exact decide_eq_false (by omega) | exact decide_eq_true (by omega)
          by_cases h4 : (b.getD i emp).size ≤ 64
          · have k4 : decide (((b.getD (i : Int).toNat emp).size : Int) > 64) = false := by rw [Int.toNat_natCast]; first | exact decide_eq_false (by omega) | exact decide_eq_true (by omega)
            repeat' (first | refine o_cons ?_ | refine w_ok rfl ?_ | refine o_nil ?_ | refine q_then ?_ | refine sq ?_ | refine aw_seq ?_ | refine aw_reg ?_ | refine w_pT rfl ka rfl ?_ | refine w_pF rfl ka rfl ?_ | refine o_y rfl ka ?_ | refine o_nT rfl ka ?_ | refine o_nF rfl ka ?_ | refine o_nU rfl ?_ | refine aw_cT rfl ka ?_ | refine aw_cF rfl ka ?_ | refine o_gT rfl (fun h => ?_) (fun h => ?_) | refine o_gF rfl (fun h => ?_) (fun h => ?_) | refine aw_cond rfl (fun h => ?_) (fun h => ?_) | refine aw_block ?_ | refine aw_skip ?_ | refine aw_ret ?_ | refine q_ret ?_ | refine q_blockN ?_ | refine q_blockR ?_ | refine aw_exit ?_ | refine q_exit ?_ | refine q_blockE ?_ | refine q_blockX de_ ?_ | refine fin_r rfl ?_ | (refine w_req rfl ?_ ?_; · exact rq_S2) | (refine w_lk rfl ?_; refine ⟨_, lk_S2, ?_⟩) | refine w_look (l' := _ :: _) rfl rfl ?_ | refine w_look (l' := []) rfl rfl ?_ | refine w_req rfl ?_ ?_ | refine w_pick rfl (fun b => ?_))
            refine ⟨i + 1, ⟨⟨by omega, fun j h => ?_⟩, by omega⟩, ?_⟩
            · rcases Nat.lt_or_ge j i with h5 | h5
              · exact hj j h5
              · have : j = i := by omega
                subst this
                exact ⟨h3, h4⟩
            (refine le_of [(2000, 2000)] ?_; repeat' (first | exact trivial | refine an ?_ ?_ | with_reducible rfl | exact bt rfl | exact Or.inl rfl | exact Or.inr rfl | exact Eq.refl _))
            first | omega | (simp; done) | (rw [wrap64] <;> omega) | (simp; omega)
          · have k4 : decide (((b.getD (i : Int).toNat emp).size : Int) > 64) = true := by rw [Int.toNat_natCast]; first | exact decide_eq_false (by omega) | exact decide_eq_true (by omega)
            repeat' (first | refine o_cons ?_ | refine w_ok rfl ?_ | refine o_nil ?_ | refine q_then ?_ | refine sq ?_ | refine aw_seq ?_ | refine aw_reg ?_ | refine w_pT rfl ka rfl ?_ | refine w_pF rfl ka rfl ?_ | refine o_y rfl ka ?_ | refine o_nT rfl ka ?_ | refine o_nF rfl ka ?_ | refine o_nU rfl ?_ | refine aw_cT rfl ka ?_ | refine aw_cF rfl ka ?_ | refine o_gT rfl (fun h => ?_) (fun h => ?_) | refine o_gF rfl (fun h => ?_) (fun h => ?_) | refine aw_cond rfl (fun h => ?_) (fun h => ?_) | refine aw_block ?_ | refine aw_skip ?_ | refine aw_ret ?_ | refine q_ret ?_ | refine q_blockN ?_ | refine q_blockR ?_ | refine aw_exit ?_ | refine q_exit ?_ | refine q_blockE ?_ | refine q_blockX de_ ?_ | refine fin_r rfl ?_ | (refine w_req rfl ?_ ?_; · exact rq_S2) | (refine w_lk rfl ?_; refine ⟨_, lk_S2, ?_⟩) | refine w_look (l' := _ :: _) rfl rfl ?_ | refine w_look (l' := []) rfl rfl ?_ | refine w_req rfl ?_ ?_ | refine w_pick rfl (fun b => ?_))
            rw [dOk_not hil (fun h => h4 h.2)]
        · have k3 : decide (((a.getD (i : Int).toNat emp).size : Int) > 64) = true := by rw [Int.toNat_natCast]; first | exact decide_eq_false (by omega) | exact decide_eq_true (by omega)
          repeat' (first | refine o_cons ?_ | refine w_ok rfl ?_ | refine o_nil ?_ | refine q_then ?_ | refine sq ?_ | refine aw_seq ?_ | refine aw_reg ?_ | refine w_pT rfl ka rfl ?_ | refine w_pF rfl ka rfl ?_ | refine o_y rfl ka ?_ | refine o_nT rfl ka ?_ | refine o_nF rfl ka ?_ | refine o_nU rfl ?_ | refine aw_cT rfl ka ?_ | refine aw_cF rfl ka ?_ | refine o_gT rfl (fun h => ?_) (fun h => ?_) | refine o_gF rfl (fun h => ?_) (fun h => ?_) | refine aw_cond rfl (fun h => ?_) (fun h => ?_) | refine aw_block ?_ | refine aw_skip ?_ | refine aw_ret ?_ | refine q_ret ?_ | refine q_blockN ?_ | refine q_blockR ?_ | refine aw_exit ?_ | refine q_exit ?_ | refine q_blockE ?_ | refine q_blockX de_ ?_ | refine fin_r rfl ?_ | (refine w_req rfl ?_ ?_; · exact rq_S2) | (refine w_lk rfl ?_; refine ⟨_, lk_S2, ?_⟩) | refine w_look (l' := _ :: _) rfl rfl ?_ | refine w_look (l' := []) rfl rfl ?_ | refine w_req rfl ?_ ?_ | refine w_pick rfl (fun b => ?_))
          rw [dOk_not hil (fun h => h3 h.1)]
      · have hc : decide ((i : Int) < (a.length : Int)) = false := by simp; omega
        have : i = a.length := by omega
        subst this
        repeat' (first | refine o_cons ?_ | refine w_ok rfl ?_ | refine o_nil ?_ | refine q_then ?_ | refine sq ?_ | refine aw_seq ?_ | refine aw_reg ?_ | refine w_pT rfl ka rfl ?_ | refine w_pF rfl ka rfl ?_ | refine o_y rfl ka ?_ | refine o_nT rfl ka ?_ | refine o_nF rfl ka ?_ | refine o_nU rfl ?_ | refine aw_cT rfl ka ?_ | refine aw_cF rfl ka ?_ | refine o_gT rfl (fun h => ?_) (fun h => ?_) | refine o_gF rfl (fun h => ?_) (fun h => ?_) | refine aw_cond rfl (fun h => ?_) (fun h => ?_) | refine aw_block ?_ | refine aw_skip ?_ | refine aw_ret ?_ | refine q_ret ?_ | refine q_blockN ?_ | refine q_blockR ?_ | refine aw_exit ?_ | refine q_exit ?_ | refine q_blockE ?_ | refine q_blockX de_ ?_ | refine fin_r rfl ?_ | (refine w_req rfl ?_ ?_; · exact rq_S2) | (refine w_lk rfl ?_; refine ⟨_, lk_S2, ?_⟩) | refine w_look (l' := _ :: _) rfl rfl ?_ | refine w_look (l' := []) rfl rfl ?_ | refine w_req rfl ?_ ?_ | refine w_pick rfl (fun b => ?_))
        rw [dOk_all hl h2 hj]
    · have k2 : decide ((a.length : Int) > 200) = true := by simp; omega
      refine agood eok (fn := Try.f103) kr_ de_ rfl kr_ ok_S2 ok_S2 ?_
      repeat' (first | refine o_cons ?_ | refine w_ok rfl ?_ | refine o_nil ?_ | refine q_then ?_ | refine sq ?_ | refine aw_seq ?_ | refine aw_reg ?_ | refine w_pT rfl ka rfl ?_ | refine w_pF rfl ka rfl ?_ | refine o_y rfl ka ?_ | refine o_nT rfl ka ?_ | refine o_nF rfl ka ?_ | refine o_nU rfl ?_ | refine aw_cT rfl ka ?_ | refine aw_cF rfl ka ?_ | refine o_gT rfl (fun h => ?_) (fun h => ?_) | refine o_gF rfl (fun h => ?_) (fun h => ?_) | refine aw_cond rfl (fun h => ?_) (fun h => ?_) | refine aw_block ?_ | refine aw_skip ?_ | refine aw_ret ?_ | refine q_ret ?_ | refine q_blockN ?_ | refine q_blockR ?_ | refine aw_exit ?_ | refine q_exit ?_ | refine q_blockE ?_ | refine q_blockX de_ ?_ | refine fin_r rfl ?_ | (refine w_req rfl ?_ ?_; · exact rq_S2) | (refine w_lk rfl ?_; refine ⟨_, lk_S2, ?_⟩) | refine w_look (l' := _ :: _) rfl rfl ?_ | refine w_look (l' := []) rfl rfl ?_ | refine w_req rfl ?_ ?_ | refine w_pick rfl (fun b => ?_))
      rw [dOk_big h2]
  · have k1 : ((a.length : Int) != (b.length : Int)) = true := by simp; omega
    refine agood eok (fn := Try.f103) kr_ de_ rfl kr_ ok_S2 ok_S2 ?_
    repeat' (first | refine o_cons ?_ | refine w_ok rfl ?_ | refine o_nil ?_ | refine q_then ?_ | refine sq ?_ | refine aw_seq ?_ | refine aw_reg ?_ | refine w_pT rfl ka rfl ?_ | refine w_pF rfl ka rfl ?_ | refine o_y rfl ka ?_ | refine o_nT rfl ka ?_ | refine o_nF rfl ka ?_ | refine o_nU rfl ?_ | refine aw_cT rfl ka ?_ | refine aw_cF rfl ka ?_ | refine o_gT rfl (fun h => ?_) (fun h => ?_) | refine o_gF rfl (fun h => ?_) (fun h => ?_) | refine aw_cond rfl (fun h => ?_) (fun h => ?_) | refine aw_block ?_ | refine aw_skip ?_ | refine aw_ret ?_ | refine q_ret ?_ | refine q_blockN ?_ | refine q_blockR ?_ | refine aw_exit ?_ | refine q_exit ?_ | refine q_blockE ?_ | refine q_blockX de_ ?_ | refine fin_r rfl ?_ | (refine w_req rfl ?_ ?_; · exact rq_S2) | (refine w_lk rfl ?_; refine ⟨_, lk_S2, ?_⟩) | refine w_look (l' := _ :: _) rfl rfl ?_ | refine w_look (l' := []) rfl rfl ?_ | refine w_req rfl ?_ ?_ | refine w_pick rfl (fun b => ?_))
    rw [dOk_len hl]
theorem diskOkS (a b : List ByteArray) {m n : Nat} (hm : m = a.length) (hn : n = b.length) : AGood e.P 101 [dkR a b m n] (.bool (dOk a b)) [keep2] := by
  subst hm; subst hn
  by_cases hl : a.length = b.length
  · have k1 : ((a.length : Int) != (b.length : Int)) = false := by simp; omega
    by_cases h2 : a.length ≤ 200
    · have k2 : decide ((a.length : Int) > 200) = false := by simp; omega
      refine agood eok (fn := Try.f101) kr_ de_ rfl kr_ ok_S2 ok_S2 ?_
      repeat' (first | refine o_cons ?_ | refine w_ok rfl ?_ | refine o_nil ?_ | refine q_then ?_ | refine sq ?_ | refine aw_seq ?_ | refine aw_reg ?_ | refine w_pT rfl ka rfl ?_ | refine w_pF rfl ka rfl ?_ | refine o_y rfl ka ?_ | refine o_nT rfl ka ?_ | refine o_nF rfl ka ?_ | refine o_nU rfl ?_ | refine aw_cT rfl ka ?_ | refine aw_cF rfl ka ?_ | refine o_gT rfl (fun h => ?_) (fun h => ?_) | refine o_gF rfl (fun h => ?_) (fun h => ?_) | refine aw_cond rfl (fun h => ?_) (fun h => ?_) | refine aw_block ?_ | refine aw_skip ?_ | refine aw_ret ?_ | refine q_ret ?_ | refine q_blockN ?_ | refine q_blockR ?_ | refine aw_exit ?_ | refine q_exit ?_ | refine q_blockE ?_ | refine q_blockX de_ ?_ | refine fin_r rfl ?_ | (refine w_req rfl ?_ ?_; · exact rq_S2) | (refine w_lk rfl ?_; refine ⟨_, lk_S2, ?_⟩) | refine w_look (l' := _ :: _) rfl rfl ?_ | refine w_look (l' := []) rfl rfl ?_ | refine w_req rfl ?_ ?_ | refine w_pick rfl (fun b => ?_))
      refine loop1 (fun i : Nat => ⟨tbl [(1, .ptr 2000 0 0 0), (3, .int .i64 i)], mbl [(2000, .box 0 42 [.ro none 1 a.length (sT a), .ro none 1 b.length (sT b)])], [.agg [.ro (some 0) 1 a.length (sT a), .ro (some 1) 1 b.length (sT b)]]⟩) (fun i => i ≤ a.length ∧ ∀ j, j < i → (a.getD j emp).size ≤ 64 ∧ (b.getD j emp).size ≤ 64) (fun i => a.length - i) 0 ⟨Nat.zero_le _, fun j hj => by omega⟩ ?_ ?_
      · (refine le_of [(2000, 2000)] ?_; repeat' (first | exact trivial | refine an ?_ ?_ | with_reducible rfl | exact bt rfl | exact Or.inl rfl | exact Or.inr rfl | exact Eq.refl _))
      rintro i ⟨hi, hj⟩
      rcases Nat.lt_or_ge i a.length with hil | hil
      · have hc : decide ((i : Int) < (a.length : Int)) = true := by simp; omega
        have g1 : 0 ≤ (i : Int) ∧ (i : Int) < (a.length : Int) := by omega
        have g2 : 0 ≤ (i : Int) ∧ (i : Int) < (b.length : Int) := by omega
        by_cases h3 : (a.getD i emp).size ≤ 64
        · have k3 : decide (((a.getD (i : Int).toNat emp).size : Int) > 64) = false := by rw [Int.toNat_natCast]; first | exact decide_eq_false (by omega) | exact decide_eq_true (by omega)
          by_cases h4 : (b.getD i emp).size ≤ 64
          · have k4 : decide (((b.getD (i : Int).toNat emp).size : Int) > 64) = false := by rw [Int.toNat_natCast]; first | exact decide_eq_false (by omega) | exact decide_eq_true (by omega)
            repeat' (first | refine o_cons ?_ | refine w_ok rfl ?_ | refine o_nil ?_ | refine q_then ?_ | refine sq ?_ | refine aw_seq ?_ | refine aw_reg ?_ | refine w_pT rfl ka rfl ?_ | refine w_pF rfl ka rfl ?_ | refine o_y rfl ka ?_ | refine o_nT rfl ka ?_ | refine o_nF rfl ka ?_ | refine o_nU rfl ?_ | refine aw_cT rfl ka ?_ | refine aw_cF rfl ka ?_ | refine o_gT rfl (fun h => ?_) (fun h => ?_) | refine o_gF rfl (fun h => ?_) (fun h => ?_) | refine aw_cond rfl (fun h => ?_) (fun h => ?_) | refine aw_block ?_ | refine aw_skip ?_ | refine aw_ret ?_ | refine q_ret ?_ | refine q_blockN ?_ | refine q_blockR ?_ | refine aw_exit ?_ | refine q_exit ?_ | refine q_blockE ?_ | refine q_blockX de_ ?_ | refine fin_r rfl ?_ | (refine w_req rfl ?_ ?_; · exact rq_S2) | (refine w_lk rfl ?_; refine ⟨_, lk_S2, ?_⟩) | refine w_look (l' := _ :: _) rfl rfl ?_ | refine w_look (l' := []) rfl rfl ?_ | refine w_req rfl ?_ ?_ | refine w_pick rfl (fun b => ?_))
            refine ⟨i + 1, ⟨⟨by omega, fun j h => ?_⟩, by omega⟩, ?_⟩
            · rcases Nat.lt_or_ge j i with h5 | h5
              · exact hj j h5
              · have : j = i := by omega
                subst this
                exact ⟨h3, h4⟩
            (refine le_of [(2000, 2000)] ?_; repeat' (first | exact trivial | refine an ?_ ?_ | with_reducible rfl | exact bt rfl | exact Or.inl rfl | exact Or.inr rfl | exact Eq.refl _))
            first | omega | (simp; done) | (rw [wrap64] <;> omega) | (simp; omega)
          · have k4 : decide (((b.getD (i : Int).toNat emp).size : Int) > 64) = true := by rw [Int.toNat_natCast]; first | exact decide_eq_false (by omega) | exact decide_eq_true (by omega)
            repeat' (first | refine o_cons ?_ | refine w_ok rfl ?_ | refine o_nil ?_ | refine q_then ?_ | refine sq ?_ | refine aw_seq ?_ | refine aw_reg ?_ | refine w_pT rfl ka rfl ?_ | refine w_pF rfl ka rfl ?_ | refine o_y rfl ka ?_ | refine o_nT rfl ka ?_ | refine o_nF rfl ka ?_ | refine o_nU rfl ?_ | refine aw_cT rfl ka ?_ | refine aw_cF rfl ka ?_ | refine o_gT rfl (fun h => ?_) (fun h => ?_) | refine o_gF rfl (fun h => ?_) (fun h => ?_) | refine aw_cond rfl (fun h => ?_) (fun h => ?_) | refine aw_block ?_ | refine aw_skip ?_ | refine aw_ret ?_ | refine q_ret ?_ | refine q_blockN ?_ | refine q_blockR ?_ | refine aw_exit ?_ | refine q_exit ?_ | refine q_blockE ?_ | refine q_blockX de_ ?_ | refine fin_r rfl ?_ | (refine w_req rfl ?_ ?_; · exact rq_S2) | (refine w_lk rfl ?_; refine ⟨_, lk_S2, ?_⟩) | refine w_look (l' := _ :: _) rfl rfl ?_ | refine w_look (l' := []) rfl rfl ?_ | refine w_req rfl ?_ ?_ | refine w_pick rfl (fun b => ?_))
            rw [dOk_not hil (fun h => h4 h.2)]
        · have k3 : decide (((a.getD (i : Int).toNat emp).size : Int) > 64) = true := by rw [Int.toNat_natCast]; first | exact decide_eq_false (by omega) | exact decide_eq_true (by omega)
          repeat' (first | refine o_cons ?_ | refine w_ok rfl ?_ | refine o_nil ?_ | refine q_then ?_ | refine sq ?_ | refine aw_seq ?_ | refine aw_reg ?_ | refine w_pT rfl ka rfl ?_ | refine w_pF rfl ka rfl ?_ | refine o_y rfl ka ?_ | refine o_nT rfl ka ?_ | refine o_nF rfl ka ?_ | refine o_nU rfl ?_ | refine aw_cT rfl ka ?_ | refine aw_cF rfl ka ?_ | refine o_gT rfl (fun h => ?_) (fun h => ?_) | refine o_gF rfl (fun h => ?_) (fun h => ?_) | refine aw_cond rfl (fun h => ?_) (fun h => ?_) | refine aw_block ?_ | refine aw_skip ?_ | refine aw_ret ?_ | refine q_ret ?_ | refine q_blockN ?_ | refine q_blockR ?_ | refine aw_exit ?_ | refine q_exit ?_ | refine q_blockE ?_ | refine q_blockX de_ ?_ | refine fin_r rfl ?_ | (refine w_req rfl ?_ ?_; · exact rq_S2) | (refine w_lk rfl ?_; refine ⟨_, lk_S2, ?_⟩) | refine w_look (l' := _ :: _) rfl rfl ?_ | refine w_look (l' := []) rfl rfl ?_ | refine w_req rfl ?_ ?_ | refine w_pick rfl (fun b => ?_))
          rw [dOk_not hil (fun h => h3 h.1)]
      · have hc : decide ((i : Int) < (a.length : Int)) = false := by simp; omega
        have : i = a.length := by omega
        subst this
        repeat' (first | refine o_cons ?_ | refine w_ok rfl ?_ | refine o_nil ?_ | refine q_then ?_ | refine sq ?_ | refine aw_seq ?_ | refine aw_reg ?_ | refine w_pT rfl ka rfl ?_ | refine w_pF rfl ka rfl ?_ | refine o_y rfl ka ?_ | refine o_nT rfl ka ?_ | refine o_nF rfl ka ?_ | refine o_nU rfl ?_ | refine aw_cT rfl ka ?_ | refine aw_cF rfl ka ?_ | refine o_gT rfl (fun h => ?_) (fun h => ?_) | refine o_gF rfl (fun h => ?_) (fun h => ?_) | refine aw_cond rfl (fun h => ?_) (fun h => ?_) | refine aw_block ?_ | refine aw_skip ?_ | refine aw_ret ?_ | refine q_ret ?_ | refine q_blockN ?_ | refine q_blockR ?_ | refine aw_exit ?_ | refine q_exit ?_ | refine q_blockE ?_ | refine q_blockX de_ ?_ | refine fin_r rfl ?_ | (refine w_req rfl ?_ ?_; · exact rq_S2) | (refine w_lk rfl ?_; refine ⟨_, lk_S2, ?_⟩) | refine w_look (l' := _ :: _) rfl rfl ?_ | refine w_look (l' := []) rfl rfl ?_ | refine w_req rfl ?_ ?_ | refine w_pick rfl (fun b => ?_))
        rw [dOk_all hl h2 hj]
    · have k2 : decide ((a.length : Int) > 200) = true := by simp; omega
      refine agood eok (fn := Try.f101) kr_ de_ rfl kr_ ok_S2 ok_S2 ?_
      repeat' (first | refine o_cons ?_ | refine w_ok rfl ?_ | refine o_nil ?_ | refine q_then ?_ | refine sq ?_ | refine aw_seq ?_ | refine aw_reg ?_ | refine w_pT rfl ka rfl ?_ | refine w_pF rfl ka rfl ?_ | refine o_y rfl ka ?_ | refine o_nT rfl ka ?_ | refine o_nF rfl ka ?_ | refine o_nU rfl ?_ | refine aw_cT rfl ka ?_ | refine aw_cF rfl ka ?_ | refine o_gT rfl (fun h => ?_) (fun h => ?_) | refine o_gF rfl (fun h => ?_) (fun h => ?_) | refine aw_cond rfl (fun h => ?_) (fun h => ?_) | refine aw_block ?_ | refine aw_skip ?_ | refine aw_ret ?_ | refine q_ret ?_ | refine q_blockN ?_ | refine q_blockR ?_ | refine aw_exit ?_ | refine q_exit ?_ | refine q_blockE ?_ | refine q_blockX de_ ?_ | refine fin_r rfl ?_ | (refine w_req rfl ?_ ?_; · exact rq_S2) | (refine w_lk rfl ?_; refine ⟨_, lk_S2, ?_⟩) | refine w_look (l' := _ :: _) rfl rfl ?_ | refine w_look (l' := []) rfl rfl ?_ | refine w_req rfl ?_ ?_ | refine w_pick rfl (fun b => ?_))
      rw [dOk_big h2]
  · have k1 : ((a.length : Int) != (b.length : Int)) = true := by simp; omega
    refine agood eok (fn := Try.f101) kr_ de_ rfl kr_ ok_S2 ok_S2 ?_
    repeat' (first | refine o_cons ?_ | refine w_ok rfl ?_ | refine o_nil ?_ | refine q_then ?_ | refine sq ?_ | refine aw_seq ?_ | refine aw_reg ?_ | refine w_pT rfl ka rfl ?_ | refine w_pF rfl ka rfl ?_ | refine o_y rfl ka ?_ | refine o_nT rfl ka ?_ | refine o_nF rfl ka ?_ | refine o_nU rfl ?_ | refine aw_cT rfl ka ?_ | refine aw_cF rfl ka ?_ | refine o_gT rfl (fun h => ?_) (fun h => ?_) | refine o_gF rfl (fun h => ?_) (fun h => ?_) | refine aw_cond rfl (fun h => ?_) (fun h => ?_) | refine aw_block ?_ | refine aw_skip ?_ | refine aw_ret ?_ | refine q_ret ?_ | refine q_blockN ?_ | refine q_blockR ?_ | refine aw_exit ?_ | refine q_exit ?_ | refine q_blockE ?_ | refine q_blockX de_ ?_ | refine fin_r rfl ?_ | (refine w_req rfl ?_ ?_; · exact rq_S2) | (refine w_lk rfl ?_; refine ⟨_, lk_S2, ?_⟩) | refine w_look (l' := _ :: _) rfl rfl ?_ | refine w_look (l' := []) rfl rfl ?_ | refine w_req rfl ?_ ?_ | refine w_pick rfl (fun b => ?_))
    rw [dOk_len hl]
theorem cloneS (l : List ByteArray) {n : Nat} (hn : n = l.length) (hl : l.length ≤ 4294967296) : AGood e.P 138 [.ro (.row 1 n (sT l))] (.row 1 l.length (sT l)) [.keep] := by
  subst hn
  refine agood eok (fn := Try.f138) kr_ de_ rfl kr_ ok_S2 ok_S2 ?_
  cases l with
  | nil =>
    repeat' (first | refine o_cons ?_ | refine w_ok rfl ?_ | refine o_nil ?_ | refine q_then ?_ | refine sq ?_ | refine aw_seq ?_ | refine aw_reg ?_ | refine w_pT rfl ka rfl ?_ | refine w_pF rfl ka rfl ?_ | refine o_y rfl ka ?_ | refine o_nT rfl ka ?_ | refine o_nF rfl ka ?_ | refine o_nU rfl ?_ | refine aw_cT rfl ka ?_ | refine aw_cF rfl ka ?_ | refine o_gT rfl (fun h => ?_) (fun h => ?_) | refine o_gF rfl (fun h => ?_) (fun h => ?_) | refine aw_cond rfl (fun h => ?_) (fun h => ?_) | refine aw_block ?_ | refine aw_skip ?_ | refine aw_ret ?_ | refine q_ret ?_ | refine q_blockN ?_ | refine q_blockR ?_ | refine aw_exit ?_ | refine q_exit ?_ | refine q_blockE ?_ | refine q_blockX de_ ?_ | refine fin_r rfl ?_ | (refine w_req rfl ?_ ?_; · exact rq_S2) | (refine w_lk rfl ?_; refine ⟨_, lk_S2, ?_⟩) | refine w_look (l' := _ :: _) rfl rfl ?_ | refine w_look (l' := []) rfl rfl ?_ | refine w_req rfl ?_ ?_ | refine w_pick rfl (fun b => ?_))
    all_goals rfl
  | cons b l =>
    repeat' (first | refine o_cons ?_ | refine w_ok rfl ?_ | refine o_nil ?_ | refine q_then ?_ | refine sq ?_ | refine aw_seq ?_ | refine aw_reg ?_ | refine w_pT rfl ka rfl ?_ | refine w_pF rfl ka rfl ?_ | refine o_y rfl ka ?_ | refine o_nT rfl ka ?_ | refine o_nF rfl ka ?_ | refine o_nU rfl ?_ | refine aw_cT rfl ka ?_ | refine aw_cF rfl ka ?_ | refine o_gT rfl (fun h => ?_) (fun h => ?_) | refine o_gF rfl (fun h => ?_) (fun h => ?_) | refine aw_cond rfl (fun h => ?_) (fun h => ?_) | refine aw_block ?_ | refine aw_skip ?_ | refine aw_ret ?_ | refine q_ret ?_ | refine q_blockN ?_ | refine q_blockR ?_ | refine aw_exit ?_ | refine q_exit ?_ | refine q_blockE ?_ | refine q_blockX de_ ?_ | refine fin_r rfl ?_ | (refine w_req rfl ?_ ?_; · exact rq_S2) | (refine w_lk rfl ?_; refine ⟨_, lk_S2, ?_⟩) | refine w_look (l' := _ :: _) rfl rfl ?_ | refine w_look (l' := []) rfl rfl ?_ | refine w_req rfl ?_ ?_ | refine w_pick rfl (fun b => ?_))
    exact r_row (Nat.zero_add _) rfl
theorem copyDisk (a b : List ByteArray) {m n : Nat} (hm : m = a.length) (hn : n = b.length) (ha : a.length ≤ 1048576) (hb : b.length ≤ 1048576) : AGood e.P 107 [dkR a b m n] (dkT a b) [keep2] := by
  subst hm; subst hn
  refine agood eok (fn := Try.f107) kr_ de_ rfl kr_ ok_S2 ok_S2 ?_
  repeat' (first | refine o_cons ?_ | refine w_ok rfl ?_ | refine w_call rfl (cloneS a rfl (by omega)) ?_ | refine w_call rfl (cloneS b rfl (by omega)) ?_ | refine o_nil ?_ | refine q_then ?_ | refine sq ?_ | refine aw_seq ?_ | refine aw_reg ?_ | refine w_pT rfl ka rfl ?_ | refine w_pF rfl ka rfl ?_ | refine o_y rfl ka ?_ | refine o_nT rfl ka ?_ | refine o_nF rfl ka ?_ | refine o_nU rfl ?_ | refine aw_cT rfl ka ?_ | refine aw_cF rfl ka ?_ | refine o_gT rfl (fun h => ?_) (fun h => ?_) | refine o_gF rfl (fun h => ?_) (fun h => ?_) | refine aw_cond rfl (fun h => ?_) (fun h => ?_) | refine aw_block ?_ | refine aw_skip ?_ | refine aw_ret ?_ | refine q_ret ?_ | refine q_blockN ?_ | refine q_blockR ?_ | refine aw_exit ?_ | refine q_exit ?_ | refine q_blockE ?_ | refine q_blockX de_ ?_ | refine fin_r rfl ?_ | (refine w_req rfl ?_ ?_; · exact rq_S2) | (refine w_lk rfl ?_; refine ⟨_, lk_S2, ?_⟩) | refine w_look (l' := _ :: _) rfl rfl ?_ | refine w_look (l' := []) rfl rfl ?_ | refine w_req rfl ?_ ?_ | refine w_pick rfl (fun b => ?_) | refine l_call rfl (cloneS a rfl (by omega)) ?_ | refine l_call rfl (cloneS b rfl (by omega)) ?_ | refine aw_drw kr_ ?_ | refine d_cons ?_ | refine l_ok rfl ?_ | refine d_nil kr_ ?_ | refine d_y rfl ka ?_ | refine d_nT rfl ka ?_ | refine d_nF rfl ka ?_ | refine d_nU rfl ?_ | refine l_pT rfl ka rfl ?_ | refine l_pF rfl ka rfl ?_ | refine d_gT rfl (fun h => ?_) (fun h => ?_) | refine d_gF rfl (fun h => ?_) (fun h => ?_) | (refine l_req rfl ?_ ?_; · exact rq_S2) | (refine l_lk rfl ?_; refine ⟨_, lk_S2, ?_⟩) | refine l_look (l' := _ :: _) rfl rfl ?_ | refine l_look (l' := []) rfl rfl ?_ | refine l_req rfl ?_ ?_)
  rfl
theorem agg_rows {a b : List ByteArray} {p q : Nat} (hp : p = a.length) (hq : q = b.length) (pb : List PB) : (Tr.agg [.row 1 p (sT a), .row 1 q (sT b)], pb) = (dkT a b, pb) := by rw [hp, hq]
theorem copyDiskS (a b : List ByteArray) {m n : Nat} (hm : m = a.length) (hn : n = b.length) (ha : a.length ≤ 1048576) (hb : b.length ≤ 1048576) : AGood e.P 106 [dkR a b m n] (dkT a b) [keep2] := by
  subst hm; subst hn
  have q1 : (0 + a.length) * 16 ≤ 140737488355328 ∧ 0 + a.length ≤ 140737488355328 := by omega
  have q2 : (0 + b.length) * 16 ≤ 140737488355328 ∧ 0 + b.length ≤ 140737488355328 := by omega
  refine agood eok (fn := Try.f106) kr_ de_ rfl kr_ ok_S2 ok_S2 ?_
  repeat' (first | refine o_cons ?_ | refine w_ok rfl ?_ | refine o_nil ?_ | refine q_then ?_ | refine sq ?_ | refine aw_seq ?_ | refine aw_reg ?_ | refine w_pT rfl ka rfl ?_ | refine w_pF rfl ka rfl ?_ | refine o_y rfl ka ?_ | refine o_nT rfl ka ?_ | refine o_nF rfl ka ?_ | refine o_nU rfl ?_ | refine aw_cT rfl ka ?_ | refine aw_cF rfl ka ?_ | refine o_gT rfl (fun h => ?_) (fun h => ?_) | refine o_gF rfl (fun h => ?_) (fun h => ?_) | refine aw_cond rfl (fun h => ?_) (fun h => ?_) | refine aw_block ?_ | refine aw_skip ?_ | refine aw_ret ?_ | refine q_ret ?_ | refine q_blockN ?_ | refine q_blockR ?_ | refine aw_exit ?_ | refine q_exit ?_ | refine q_blockE ?_ | refine q_blockX de_ ?_ | refine fin_r rfl ?_ | (refine w_req rfl ?_ ?_; · exact rq_S2) | (refine w_lk rfl ?_; refine ⟨_, lk_S2, ?_⟩) | refine w_look (l' := _ :: _) rfl rfl ?_ | refine w_look (l' := []) rfl rfl ?_ | refine w_req rfl ?_ ?_ | refine w_pick rfl (fun b => ?_) | refine aw_drw kr_ ?_ | refine d_cons ?_ | refine l_ok rfl ?_ | refine d_nil kr_ ?_ | refine d_y rfl ka ?_ | refine d_nT rfl ka ?_ | refine d_nF rfl ka ?_ | refine d_nU rfl ?_ | refine l_pT rfl ka rfl ?_ | refine l_pF rfl ka rfl ?_ | refine d_gT rfl (fun h => ?_) (fun h => ?_) | refine d_gF rfl (fun h => ?_) (fun h => ?_) | (refine l_req rfl ?_ ?_; · exact rq_S2) | (refine l_lk rfl ?_; refine ⟨_, lk_S2, ?_⟩) | refine l_look (l' := _ :: _) rfl rfl ?_ | refine l_look (l' := []) rfl rfl ?_ | refine l_req rfl ?_ ?_)
  exact agg_rows (Nat.zero_add _) (Nat.zero_add _) _
theorem flushI (a b : List ByteArray) {m n : Nat} (hm : m = a.length) (hn : n = b.length) (ha : a.length ≤ 1048576) : AGood e.P 112 [dkR a b m n] (dkT a a) [keep2] := by
  subst hm; subst hn
  refine agood eok (fn := Try.f112) kr_ de_ rfl kr_ ok_S2 ok_S2 ?_
  repeat' (first | refine o_cons ?_ | refine w_ok rfl ?_ | refine w_call rfl (cloneS a rfl (by omega)) ?_ | refine o_nil ?_ | refine q_then ?_ | refine sq ?_ | refine aw_seq ?_ | refine aw_reg ?_ | refine w_pT rfl ka rfl ?_ | refine w_pF rfl ka rfl ?_ | refine o_y rfl ka ?_ | refine o_nT rfl ka ?_ | refine o_nF rfl ka ?_ | refine o_nU rfl ?_ | refine aw_cT rfl ka ?_ | refine aw_cF rfl ka ?_ | refine o_gT rfl (fun h => ?_) (fun h => ?_) | refine o_gF rfl (fun h => ?_) (fun h => ?_) | refine aw_cond rfl (fun h => ?_) (fun h => ?_) | refine aw_block ?_ | refine aw_skip ?_ | refine aw_ret ?_ | refine q_ret ?_ | refine q_blockN ?_ | refine q_blockR ?_ | refine aw_exit ?_ | refine q_exit ?_ | refine q_blockE ?_ | refine q_blockX de_ ?_ | refine fin_r rfl ?_ | (refine w_req rfl ?_ ?_; · exact rq_S2) | (refine w_lk rfl ?_; refine ⟨_, lk_S2, ?_⟩) | refine w_look (l' := _ :: _) rfl rfl ?_ | refine w_look (l' := []) rfl rfl ?_ | refine w_req rfl ?_ ?_ | refine w_pick rfl (fun b => ?_) | refine l_call rfl (cloneS a rfl (by omega)) ?_ | refine aw_drw kr_ ?_ | refine d_cons ?_ | refine l_ok rfl ?_ | refine d_nil kr_ ?_ | refine d_y rfl ka ?_ | refine d_nT rfl ka ?_ | refine d_nF rfl ka ?_ | refine d_nU rfl ?_ | refine l_pT rfl ka rfl ?_ | refine l_pF rfl ka rfl ?_ | refine d_gT rfl (fun h => ?_) (fun h => ?_) | refine d_gF rfl (fun h => ?_) (fun h => ?_) | (refine l_req rfl ?_ ?_; · exact rq_S2) | (refine l_lk rfl ?_; refine ⟨_, lk_S2, ?_⟩) | refine l_look (l' := _ :: _) rfl rfl ?_ | refine l_look (l' := []) rfl rfl ?_ | refine l_req rfl ?_ ?_)
  rfl
theorem flushS (a b : List ByteArray) {m n : Nat} (hm : m = a.length) (hn : n = b.length) (ha : a.length ≤ 1048576) : AGood e.P 110 [dkR a b m n] (dkT a a) [keep2] := by
  subst hm; subst hn
  have q1 : (0 + a.length) * 16 ≤ 140737488355328 ∧ 0 + a.length ≤ 140737488355328 := by omega
  refine agood eok (fn := Try.f110) kr_ de_ rfl kr_ ok_S2 ok_S2 ?_
  repeat' (first | refine o_cons ?_ | refine w_ok rfl ?_ | refine o_nil ?_ | refine q_then ?_ | refine sq ?_ | refine aw_seq ?_ | refine aw_reg ?_ | refine w_pT rfl ka rfl ?_ | refine w_pF rfl ka rfl ?_ | refine o_y rfl ka ?_ | refine o_nT rfl ka ?_ | refine o_nF rfl ka ?_ | refine o_nU rfl ?_ | refine aw_cT rfl ka ?_ | refine aw_cF rfl ka ?_ | refine o_gT rfl (fun h => ?_) (fun h => ?_) | refine o_gF rfl (fun h => ?_) (fun h => ?_) | refine aw_cond rfl (fun h => ?_) (fun h => ?_) | refine aw_block ?_ | refine aw_skip ?_ | refine aw_ret ?_ | refine q_ret ?_ | refine q_blockN ?_ | refine q_blockR ?_ | refine aw_exit ?_ | refine q_exit ?_ | refine q_blockE ?_ | refine q_blockX de_ ?_ | refine fin_r rfl ?_ | (refine w_req rfl ?_ ?_; · exact rq_S2) | (refine w_lk rfl ?_; refine ⟨_, lk_S2, ?_⟩) | refine w_look (l' := _ :: _) rfl rfl ?_ | refine w_look (l' := []) rfl rfl ?_ | refine w_req rfl ?_ ?_ | refine w_pick rfl (fun b => ?_) | refine aw_drw kr_ ?_ | refine d_cons ?_ | refine l_ok rfl ?_ | refine d_nil kr_ ?_ | refine d_y rfl ka ?_ | refine d_nT rfl ka ?_ | refine d_nF rfl ka ?_ | refine d_nU rfl ?_ | refine l_pT rfl ka rfl ?_ | refine l_pF rfl ka rfl ?_ | refine d_gT rfl (fun h => ?_) (fun h => ?_) | refine d_gF rfl (fun h => ?_) (fun h => ?_) | (refine l_req rfl ?_ ?_; · exact rq_S2) | (refine l_lk rfl ?_; refine ⟨_, lk_S2, ?_⟩) | refine l_look (l' := _ :: _) rfl rfl ?_ | refine l_look (l' := []) rfl rfl ?_ | refine l_req rfl ?_ ?_)
  exact agg_rows (Nat.zero_add _) (Nat.zero_add _) _
theorem copyStoreS (s : St) (h : s.sm) : AGood e.P 109 [stR s] (stT s) [keep5] := by
  have ha := h.a
  have hb := h.b
  refine agood eok (fn := Try.f109) kr_ de_ rfl kr_ ok_S2 ok_S2 ?_
  repeat' (first | refine o_cons ?_ | refine w_ok rfl ?_ | refine w_call rfl (copyDiskS s.a s.b rfl rfl ha hb) ?_ | refine w_call rfl (copyUps s.u rfl h.u h.d) ?_ | refine o_nil ?_ | refine q_then ?_ | refine sq ?_ | refine aw_seq ?_ | refine aw_reg ?_ | refine w_pT rfl ka rfl ?_ | refine w_pF rfl ka rfl ?_ | refine o_y rfl ka ?_ | refine o_nT rfl ka ?_ | refine o_nF rfl ka ?_ | refine o_nU rfl ?_ | refine aw_cT rfl ka ?_ | refine aw_cF rfl ka ?_ | refine o_gT rfl (fun h => ?_) (fun h => ?_) | refine o_gF rfl (fun h => ?_) (fun h => ?_) | refine aw_cond rfl (fun h => ?_) (fun h => ?_) | refine aw_block ?_ | refine aw_skip ?_ | refine aw_ret ?_ | refine q_ret ?_ | refine q_blockN ?_ | refine q_blockR ?_ | refine aw_exit ?_ | refine q_exit ?_ | refine q_blockE ?_ | refine q_blockX de_ ?_ | refine fin_r rfl ?_ | (refine w_req rfl ?_ ?_; · exact rq_S2) | (refine w_lk rfl ?_; refine ⟨_, lk_S2, ?_⟩) | refine w_look (l' := _ :: _) rfl rfl ?_ | refine w_look (l' := []) rfl rfl ?_ | refine w_req rfl ?_ ?_ | refine w_pick rfl (fun b => ?_) | refine l_call rfl (copyDiskS s.a s.b rfl rfl ha hb) ?_ | refine l_call rfl (copyUps s.u rfl h.u h.d) ?_ | refine aw_drw kr_ ?_ | refine d_cons ?_ | refine l_ok rfl ?_ | refine d_nil kr_ ?_ | refine d_y rfl ka ?_ | refine d_nT rfl ka ?_ | refine d_nF rfl ka ?_ | refine d_nU rfl ?_ | refine l_pT rfl ka rfl ?_ | refine l_pF rfl ka rfl ?_ | refine d_gT rfl (fun h => ?_) (fun h => ?_) | refine d_gF rfl (fun h => ?_) (fun h => ?_) | (refine l_req rfl ?_ ?_; · exact rq_S2) | (refine l_lk rfl ?_; refine ⟨_, lk_S2, ?_⟩) | refine l_look (l' := _ :: _) rfl rfl ?_ | refine l_look (l' := []) rfl rfl ?_ | refine l_req rfl ?_ ?_)
  rfl
theorem copyStore (s : St) (h : s.sm) : AGood e.P 111 [stR s] (stT s) [keep5] := by
  obtain ⟨a, b, ee, nn, l⟩ := s
  have ha : a.length ≤ 1048576 := h.a
  have hb : b.length ≤ 1048576 := h.b
  have hl : l.length ≤ 1048576 := h.u
  have hd : ∀ x ∈ l, x.d.length ≤ 4294967296 := fun x hx => by have := h.d x hx; omega
  clear h
  refine agood eok (fn := Try.f111) kr_ de_ rfl kr_ ok_S2 ok_S2 ?_
  repeat' (first | refine o_cons ?_ | refine w_ok rfl ?_ | refine w_call rfl (copyDisk a b rfl rfl ha hb) ?_ | refine o_nil ?_ | refine q_then ?_ | refine sq ?_ | refine aw_seq ?_ | refine aw_reg ?_ | refine w_pT rfl ka rfl ?_ | refine w_pF rfl ka rfl ?_ | refine o_y rfl ka ?_ | refine o_nT rfl ka ?_ | refine o_nF rfl ka ?_ | refine o_nU rfl ?_ | refine aw_cT rfl ka ?_ | refine aw_cF rfl ka ?_ | refine o_gT rfl (fun h => ?_) (fun h => ?_) | refine o_gF rfl (fun h => ?_) (fun h => ?_) | refine aw_cond rfl (fun h => ?_) (fun h => ?_) | refine aw_block ?_ | refine aw_skip ?_ | refine aw_ret ?_ | refine q_ret ?_ | refine q_blockN ?_ | refine q_blockR ?_ | refine aw_exit ?_ | refine q_exit ?_ | refine q_blockE ?_ | refine q_blockX de_ ?_ | refine fin_r rfl ?_ | (refine w_req rfl ?_ ?_; · exact rq_S2) | (refine w_lk rfl ?_; refine ⟨_, lk_S2, ?_⟩) | refine w_look (l' := _ :: _) rfl rfl ?_ | refine w_look (l' := []) rfl rfl ?_ | refine w_req rfl ?_ ?_ | refine w_pick rfl (fun b => ?_) | refine l_call rfl (copyDisk a b rfl rfl ha hb) ?_ | refine aw_drw kr_ ?_ | refine d_cons ?_ | refine l_ok rfl ?_ | refine d_nil kr_ ?_ | refine d_y rfl ka ?_ | refine d_nT rfl ka ?_ | refine d_nF rfl ka ?_ | refine d_nU rfl ?_ | refine l_pT rfl ka rfl ?_ | refine l_pF rfl ka rfl ?_ | refine d_gT rfl (fun h => ?_) (fun h => ?_) | refine d_gF rfl (fun h => ?_) (fun h => ?_) | (refine l_req rfl ?_ ?_; · exact rq_S2) | (refine l_lk rfl ?_; refine ⟨_, lk_S2, ?_⟩) | refine l_look (l' := _ :: _) rfl rfl ?_ | refine l_look (l' := []) rfl rfl ?_ | refine l_req rfl ?_ ?_)
  refine loop1 (fun i : Nat => ⟨tbl [(2, .ptr 3000 0 0 0), (3, .ptr 4000 0 0 0), (15, .ro none 4 l.length (uT l)), (16, .int .i64 l.length), (17, .int .i64 i)], mbl [(3000, .box 0 56 [.nils, .nils, .int .i64 0, .int .i64 0, .nils]), (4000, .box 0 56 [.own 9000 0, .own 9001 0, .int .i64 ee, .int .i64 nn, .own 60000 0]), (9000, .row 0 0 1 a.length (sT a)), (9001, .row 0 0 1 b.length (sT b)), (60000, .row 0 0 4 i (uT (l.take i)))], [.agg [.ro (some 0) 1 a.length (sT a), .ro (some 1) 1 b.length (sT b), .int .i64 ee, .int .i64 nn, .ro (some 2) 4 l.length (uT l)]]⟩) (fun i => i ≤ l.length) (fun i => l.length - i) 0 (Nat.zero_le _) ?_ ?_
  · refine Le.trans (Le.nilB 4000 4 60000 0 4 rfl rfl (fun b0 h => by cases h) (by decide)) ?_
    (refine le_of [(3000, 3000), (4000, 4000), (9000, 9000), (9001, 9001), (60000, 60000)] ?_; repeat' (first | exact trivial | refine an ?_ ?_ | with_reducible rfl | exact bt rfl | exact Or.inl rfl | exact Or.inr rfl | exact Eq.refl _))
  intro i hi
  rcases Nat.lt_or_ge i l.length with hil | hil
  · have hc : decide ((i : Int) < (l.length : Int)) = true := by simp; omega
    have g1 : 0 ≤ (i : Int) ∧ (i : Int) < (l.length : Int) := by omega
    have hdi := getD_all hd hil (z := zeroU)
    have q2 : (i + 1) * 56 ≤ 140737488355328 ∧ i + 1 ≤ 140737488355328 := by omega
    repeat' (first | refine o_cons ?_ | refine w_ok rfl ?_ | refine w_call rfl (copyUp (l.getD (i : Int).toNat zeroU) rfl hdi) ?_ | refine o_nil ?_ | refine q_then ?_ | refine sq ?_ | refine aw_seq ?_ | refine aw_reg ?_ | refine w_pT rfl ka rfl ?_ | refine w_pF rfl ka rfl ?_ | refine o_y rfl ka ?_ | refine o_nT rfl ka ?_ | refine o_nF rfl ka ?_ | refine o_nU rfl ?_ | refine aw_cT rfl ka ?_ | refine aw_cF rfl ka ?_ | refine o_gT rfl (fun h => ?_) (fun h => ?_) | refine o_gF rfl (fun h => ?_) (fun h => ?_) | refine aw_cond rfl (fun h => ?_) (fun h => ?_) | refine aw_block ?_ | refine aw_skip ?_ | refine aw_ret ?_ | refine q_ret ?_ | refine q_blockN ?_ | refine q_blockR ?_ | refine aw_exit ?_ | refine q_exit ?_ | refine q_blockE ?_ | refine q_blockX de_ ?_ | refine fin_r rfl ?_ | (refine w_req rfl ?_ ?_; · exact rq_S2) | (refine w_lk rfl ?_; refine ⟨_, lk_S2, ?_⟩) | refine w_look (l' := _ :: _) rfl rfl ?_ | refine w_look (l' := []) rfl rfl ?_ | refine w_req rfl ?_ ?_ | refine w_pick rfl (fun b => ?_) | refine l_call rfl (copyUp (l.getD (i : Int).toNat zeroU) rfl hdi) ?_ | refine aw_drw kr_ ?_ | refine d_cons ?_ | refine l_ok rfl ?_ | refine d_nil kr_ ?_ | refine d_y rfl ka ?_ | refine d_nT rfl ka ?_ | refine d_nF rfl ka ?_ | refine d_nU rfl ?_ | refine l_pT rfl ka rfl ?_ | refine l_pF rfl ka rfl ?_ | refine d_gT rfl (fun h => ?_) (fun h => ?_) | refine d_gF rfl (fun h => ?_) (fun h => ?_) | (refine l_req rfl ?_ ?_; · exact rq_S2) | (refine l_lk rfl ?_; refine ⟨_, lk_S2, ?_⟩) | refine l_look (l' := _ :: _) rfl rfl ?_ | refine l_look (l' := []) rfl rfl ?_ | refine l_req rfl ?_ ?_)
    refine ⟨i + 1, ⟨by omega, by omega⟩, ?_⟩
    (refine le_of [(3000, 3000), (4000, 4000), (9000, 9000), (9001, 9001), (60000, 60000)] ?_; repeat' (first | exact trivial | refine an ?_ ?_ | with_reducible rfl | exact bt rfl | exact Or.inl rfl | exact Or.inr rfl | exact Eq.refl _))
    all_goals first | exact congrArg uT (take_succ_getD hil).symm | (first | omega | (simp; done) | (rw [wrap64] <;> omega) | (simp; omega))
  · have hc : decide ((i : Int) < (l.length : Int)) = false := by simp; omega
    have : i = l.length := by omega
    subst this
    repeat' (first | refine o_cons ?_ | refine w_ok rfl ?_ | refine o_nil ?_ | refine q_then ?_ | refine sq ?_ | refine aw_seq ?_ | refine aw_reg ?_ | refine w_pT rfl ka rfl ?_ | refine w_pF rfl ka rfl ?_ | refine o_y rfl ka ?_ | refine o_nT rfl ka ?_ | refine o_nF rfl ka ?_ | refine o_nU rfl ?_ | refine aw_cT rfl ka ?_ | refine aw_cF rfl ka ?_ | refine o_gT rfl (fun h => ?_) (fun h => ?_) | refine o_gF rfl (fun h => ?_) (fun h => ?_) | refine aw_cond rfl (fun h => ?_) (fun h => ?_) | refine aw_block ?_ | refine aw_skip ?_ | refine aw_ret ?_ | refine q_ret ?_ | refine q_blockN ?_ | refine q_blockR ?_ | refine aw_exit ?_ | refine q_exit ?_ | refine q_blockE ?_ | refine q_blockX de_ ?_ | refine fin_r rfl ?_ | (refine w_req rfl ?_ ?_; · exact rq_S2) | (refine w_lk rfl ?_; refine ⟨_, lk_S2, ?_⟩) | refine w_look (l' := _ :: _) rfl rfl ?_ | refine w_look (l' := []) rfl rfl ?_ | refine w_req rfl ?_ ?_ | refine w_pick rfl (fun b => ?_))
    rw [List.take_length]
end Go.Proofs.Ytbkpmljdmlhmhaa
