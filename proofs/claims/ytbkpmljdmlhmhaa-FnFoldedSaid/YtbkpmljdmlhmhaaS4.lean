import Derived.Test.YtbkpmljdmlhmhaaS3
namespace Go.Proofs.Ytbkpmljdmlhmhaa
open Go Go.AM Ty
set_option maxRecDepth 100000
set_option maxHeartbeats 4000000
set_option linter.unusedVariables false
set_option linter.unusedSimpArgs false
attribute [local irreducible] aw aops aopsD wpo wpoL condW guardW thenQ blockQ finQ Le AGood
theorem rq_S4 {p : Prop} (h : p := by first | assumption | exact uT_plain _ | exact rT_plain _ | exact sT_plain _ | exact rq_) : p := h
theorem lk_S4 {p : Prop} (h : p := by first | exact bT_app _ _ | exact mp_el (f := Tr.str) emp side_ | exact rT_el side_ | exact uT_el side_ | exact lk_) : p := h
theorem ok_S4 {p : Prop} (h : p := by first | (simp [Tr.okR, Tr.okRL, Tr.plainL, Tr.plain, cells1, Tr.cellB, PB.okRL, PB.okR, bT_plain, sT_plain, oT_plain, nT_plain, uT_plain, rT_plain]; done) | exact ok_) : p := h
attribute [local irreducible] getRecM scanM foldM dOk sameUs
theorem step_lt {t e : Int} {s : ByteArray} : topStep t s < e ↔ t < e ∧ ((getRecM s).isSome = true → (gR s).a < e) := by
  unfold topStep
  cases hs : (getRecM s).isSome with
  | false => simp
  | true =>
    simp only [Bool.true_and, decide_eq_true_eq, true_implies]
    split
    · constructor
      · intro h; exact ⟨by omega, h⟩
      · intro h; exact h.2
    · constructor
      · intro h; exact ⟨h, by omega⟩
      · intro h; exact h.1
theorem top_lt {e : Int} : ∀ (l : List ByteArray) (t : Int), l.foldl topStep t < e ↔ t < e ∧ ∀ x ∈ l, (getRecM x).isSome = true → (gR x).a < e
  | [], t => by simp
  | s :: l, t => by
    rw [List.foldl_cons, top_lt l, step_lt]
    simp only [List.mem_cons, forall_eq_or_imp, and_assoc]
theorem top_end {a : List ByteArray} {e : Int} {k : Nat} (he : 0 ≤ e) (h : ∀ j, k ≤ j → j < a.length → ¬ ((getRecM (a.getD j emp)).isSome = true ∧ e ≤ (gR (a.getD j emp)).a)) : decide (topM (a.drop k) < e) = true := by
  refine decide_eq_true ?_
  unfold topM
  rw [top_lt]
  refine ⟨by omega, fun x hx hs => ?_⟩
  obtain ⟨j, hj, rfl⟩ := List.getElem_of_mem hx
  rw [List.length_drop] at hj
  have := h (k + j) (by omega) (by omega)
  rw [List.getElem_drop] at hs ⊢
  rw [List.getD_eq_getElem?_getD, List.getElem?_eq_getElem (by omega : k + j < a.length)] at this
  simp only [Option.getD_some] at this
  exact Int.not_le.1 fun hq => this ⟨hs, hq⟩
theorem top_not {a : List ByteArray} {e : Int} {k i : Nat} (hk : k ≤ i) (hi : i < a.length) (h1 : (getRecM (a.getD i emp)).isSome = true) (h2 : e ≤ (gR (a.getD i emp)).a) : decide (topM (a.drop k) < e) = false := by
  refine decide_eq_false ?_
  unfold topM
  rw [top_lt]
  rintro ⟨_, h⟩
  have hm : a.getD i emp ∈ a.drop k := by
    rw [List.getD_eq_getElem?_getD, List.getElem?_eq_getElem hi, Option.getD_some]
    rw [List.mem_iff_getElem]
    exact ⟨i - k, by rw [List.length_drop]; omega, by rw [List.getElem_drop]; congr 1; omega⟩
  have := h _ hm h1
  omega
attribute [local irreducible] topM
theorem storeOkS (s : St) (h : s.sm) : AGood e.P 57 [stR s] (.bool (okM s)) [keep5] := by
  have hu := h.u
  have c1 := inRangeS s.e 0 10000
  have c2 := diskOkS s.a s.b rfl rfl
  have hM : ∃ M, okM s = M := ⟨_, rfl⟩
  obtain ⟨M, hM⟩ := hM
  rw [hM]
  unfold okM at hM
  cases hd : dOk s.a s.b with
  | false =>
    rw [hd] at c2 hM
    simp only [Bool.and_false, Bool.false_and] at hM
    subst hM
    refine agood eok (fn := Try.f57) kr_ de_ rfl kr_ ok_S4 ok_S4 ?_
    repeat' (first | refine o_cons ?_ | refine w_ok rfl ?_ | refine w_call rfl (c2) ?_ | refine o_nil ?_ | refine q_then ?_ | refine sq ?_ | refine aw_seq ?_ | refine aw_reg ?_ | refine w_pT rfl ka rfl ?_ | refine w_pF rfl ka rfl ?_ | refine o_y rfl ka ?_ | refine o_nT rfl ka ?_ | refine o_nF rfl ka ?_ | refine o_nU rfl ?_ | refine aw_cT rfl ka ?_ | refine aw_cF rfl ka ?_ | refine o_gT rfl (fun h => ?_) (fun h => ?_) | refine o_gF rfl (fun h => ?_) (fun h => ?_) | refine aw_cond rfl (fun h => ?_) (fun h => ?_) | refine aw_block ?_ | refine aw_skip ?_ | refine aw_ret ?_ | refine q_ret ?_ | refine q_blockN ?_ | refine q_blockR ?_ | refine aw_exit ?_ | refine q_exit ?_ | refine q_blockE ?_ | refine q_blockX de_ ?_ | refine fin_r rfl ?_ | (refine w_req rfl ?_ ?_; · exact rq_S4) | (refine w_lk rfl ?_; refine ⟨_, lk_S4, ?_⟩) | refine w_look (l' := _ :: _) rfl rfl ?_ | refine w_look (l' := []) rfl rfl ?_ | refine w_req rfl ?_ ?_ | refine w_pick rfl (fun b => ?_) | refine l_call rfl (c2) ?_ | refine aw_drw kr_ ?_ | refine d_cons ?_ | refine l_ok rfl ?_ | refine d_nil kr_ ?_ | refine d_y rfl ka ?_ | refine d_nT rfl ka ?_ | refine d_nF rfl ka ?_ | refine d_nU rfl ?_ | refine l_pT rfl ka rfl ?_ | refine l_pF rfl ka rfl ?_ | refine d_gT rfl (fun h => ?_) (fun h => ?_) | refine d_gF rfl (fun h => ?_) (fun h => ?_) | (refine l_req rfl ?_ ?_; · exact rq_S4) | (refine l_lk rfl ?_; refine ⟨_, lk_S4, ?_⟩) | refine l_look (l' := _ :: _) rfl rfl ?_ | refine l_look (l' := []) rfl rfl ?_ | refine l_req rfl ?_ ?_)
    rfl
  | true =>
    rw [hd] at c2 hM
    cases he : (decide (0 ≤ s.e) && decide (s.e ≤ 10000)) with
    | false =>
      rw [he] at c1 hM
      simp only [Bool.false_and] at hM
      subst hM
      refine agood eok (fn := Try.f57) kr_ de_ rfl kr_ ok_S4 ok_S4 ?_
      repeat' (first | refine o_cons ?_ | refine w_ok rfl ?_ | refine w_call rfl (c1) ?_ | refine w_call rfl (c2) ?_ | refine o_nil ?_ | refine q_then ?_ | refine sq ?_ | refine aw_seq ?_ | refine aw_reg ?_ | refine w_pT rfl ka rfl ?_ | refine w_pF rfl ka rfl ?_ | refine o_y rfl ka ?_ | refine o_nT rfl ka ?_ | refine o_nF rfl ka ?_ | refine o_nU rfl ?_ | refine aw_cT rfl ka ?_ | refine aw_cF rfl ka ?_ | refine o_gT rfl (fun h => ?_) (fun h => ?_) | refine o_gF rfl (fun h => ?_) (fun h => ?_) | refine aw_cond rfl (fun h => ?_) (fun h => ?_) | refine aw_block ?_ | refine aw_skip ?_ | refine aw_ret ?_ | refine q_ret ?_ | refine q_blockN ?_ | refine q_blockR ?_ | refine aw_exit ?_ | refine q_exit ?_ | refine q_blockE ?_ | refine q_blockX de_ ?_ | refine fin_r rfl ?_ | (refine w_req rfl ?_ ?_; · exact rq_S4) | (refine w_lk rfl ?_; refine ⟨_, lk_S4, ?_⟩) | refine w_look (l' := _ :: _) rfl rfl ?_ | refine w_look (l' := []) rfl rfl ?_ | refine w_req rfl ?_ ?_ | refine w_pick rfl (fun b => ?_) | refine l_call rfl (c1) ?_ | refine l_call rfl (c2) ?_ | refine aw_drw kr_ ?_ | refine d_cons ?_ | refine l_ok rfl ?_ | refine d_nil kr_ ?_ | refine d_y rfl ka ?_ | refine d_nT rfl ka ?_ | refine d_nF rfl ka ?_ | refine d_nU rfl ?_ | refine l_pT rfl ka rfl ?_ | refine l_pF rfl ka rfl ?_ | refine d_gT rfl (fun h => ?_) (fun h => ?_) | refine d_gF rfl (fun h => ?_) (fun h => ?_) | (refine l_req rfl ?_ ?_; · exact rq_S4) | (refine l_lk rfl ?_; refine ⟨_, lk_S4, ?_⟩) | refine l_look (l' := _ :: _) rfl rfl ?_ | refine l_look (l' := []) rfl rfl ?_ | refine l_req rfl ?_ ?_)
      rfl
    | true =>
      rw [he] at c1 hM
      have hee : 0 ≤ s.e := by simp at he; exact he.1
      obtain ⟨d1, d2, d3, d4⟩ := dOk_sz hd
      have c3 := scanS s.a s.b (n := s.b.length) rfl (by omega) (fun x hx => by have := d3 x hx; omega)
      have hsl := scanM_len s.a
      have hsd := scan_d (a := s.a)
      have hsm := sumD_24 _ hsd
      have c4 := foldS (scanM s.a) rfl (by omega) (by omega)
      simp only [Bool.true_and] at hM
      cases hF : foldM [] (scanM s.a) with
      | none =>
        rw [hF] at c4 hM
        have c4 : AGood e.P 50 [.ro (.row 6 (scanM s.a).length (rT (scanM s.a)))] (.tup [.row 4 0 [], .bool false]) [.keep] := c4
        simp only at hM
        subst hM
        refine agood eok (fn := Try.f57) kr_ de_ rfl kr_ ok_S4 ok_S4 ?_
        repeat' (first | refine o_cons ?_ | refine w_ok rfl ?_ | refine w_call rfl (c1) ?_ | refine w_call rfl (c2) ?_ | refine w_call rfl (c3) ?_ | refine w_call rfl (c4) ?_ | refine o_nil ?_ | refine q_then ?_ | refine sq ?_ | refine aw_seq ?_ | refine aw_reg ?_ | refine w_pT rfl ka rfl ?_ | refine w_pF rfl ka rfl ?_ | refine o_y rfl ka ?_ | refine o_nT rfl ka ?_ | refine o_nF rfl ka ?_ | refine o_nU rfl ?_ | refine aw_cT rfl ka ?_ | refine aw_cF rfl ka ?_ | refine o_gT rfl (fun h => ?_) (fun h => ?_) | refine o_gF rfl (fun h => ?_) (fun h => ?_) | refine aw_cond rfl (fun h => ?_) (fun h => ?_) | refine aw_block ?_ | refine aw_skip ?_ | refine aw_ret ?_ | refine q_ret ?_ | refine q_blockN ?_ | refine q_blockR ?_ | refine aw_exit ?_ | refine q_exit ?_ | refine q_blockE ?_ | refine q_blockX de_ ?_ | refine fin_r rfl ?_ | (refine w_req rfl ?_ ?_; · exact rq_S4) | (refine w_lk rfl ?_; refine ⟨_, lk_S4, ?_⟩) | refine w_look (l' := _ :: _) rfl rfl ?_ | refine w_look (l' := []) rfl rfl ?_ | refine w_req rfl ?_ ?_ | refine w_pick rfl (fun b => ?_) | refine l_call rfl (c1) ?_ | refine l_call rfl (c2) ?_ | refine l_call rfl (c3) ?_ | refine l_call rfl (c4) ?_ | refine aw_drw kr_ ?_ | refine d_cons ?_ | refine l_ok rfl ?_ | refine d_nil kr_ ?_ | refine d_y rfl ka ?_ | refine d_nT rfl ka ?_ | refine d_nF rfl ka ?_ | refine d_nU rfl ?_ | refine l_pT rfl ka rfl ?_ | refine l_pF rfl ka rfl ?_ | refine d_gT rfl (fun h => ?_) (fun h => ?_) | refine d_gF rfl (fun h => ?_) (fun h => ?_) | (refine l_req rfl ?_ ?_; · exact rq_S4) | (refine l_lk rfl ?_; refine ⟨_, lk_S4, ?_⟩) | refine l_look (l' := _ :: _) rfl rfl ?_ | refine l_look (l' := []) rfl rfl ?_ | refine l_req rfl ?_ ?_)
        rfl
      | some u =>
        rw [hF] at c4 hM
        have c4 : AGood e.P 50 [.ro (.row 6 (scanM s.a).length (rT (scanM s.a)))] (.tup [.row 4 u.length (uT u), .bool true]) [.keep] := c4
        obtain ⟨hul, _⟩ := foldM_ok _ (B := 0) hF (Nat.zero_le _) (fun x hx => by cases hx)
        have c5 := sameUpsS u s.u rfl rfl (by omega) hu
        simp only at hM
        unfold okTail at hM
        generalize scanM s.a = L at *
        cases hs : sameUs u s.u with
        | false =>
          rw [hs] at c5 hM
          simp only [Bool.false_and] at hM
          subst hM
          refine agood eok (fn := Try.f57) kr_ de_ rfl kr_ ok_S4 ok_S4 ?_
          repeat' (first | refine o_cons ?_ | refine w_ok rfl ?_ | refine w_call rfl (c1) ?_ | refine w_call rfl (c2) ?_ | refine w_call rfl (c3) ?_ | refine w_call rfl (c4) ?_ | refine w_call rfl (c5) ?_ | refine o_nil ?_ | refine q_then ?_ | refine sq ?_ | refine aw_seq ?_ | refine aw_reg ?_ | refine w_pT rfl ka rfl ?_ | refine w_pF rfl ka rfl ?_ | refine o_y rfl ka ?_ | refine o_nT rfl ka ?_ | refine o_nF rfl ka ?_ | refine o_nU rfl ?_ | refine aw_cT rfl ka ?_ | refine aw_cF rfl ka ?_ | refine o_gT rfl (fun h => ?_) (fun h => ?_) | refine o_gF rfl (fun h => ?_) (fun h => ?_) | refine aw_cond rfl (fun h => ?_) (fun h => ?_) | refine aw_block ?_ | refine aw_skip ?_ | refine aw_ret ?_ | refine q_ret ?_ | refine q_blockN ?_ | refine q_blockR ?_ | refine aw_exit ?_ | refine q_exit ?_ | refine q_blockE ?_ | refine q_blockX de_ ?_ | refine fin_r rfl ?_ | (refine w_req rfl ?_ ?_; · exact rq_S4) | (refine w_lk rfl ?_; refine ⟨_, lk_S4, ?_⟩) | refine w_look (l' := _ :: _) rfl rfl ?_ | refine w_look (l' := []) rfl rfl ?_ | refine w_req rfl ?_ ?_ | refine w_pick rfl (fun b => ?_) | refine l_call rfl (c1) ?_ | refine l_call rfl (c2) ?_ | refine l_call rfl (c3) ?_ | refine l_call rfl (c4) ?_ | refine l_call rfl (c5) ?_ | refine aw_drw kr_ ?_ | refine d_cons ?_ | refine l_ok rfl ?_ | refine d_nil kr_ ?_ | refine d_y rfl ka ?_ | refine d_nT rfl ka ?_ | refine d_nF rfl ka ?_ | refine d_nU rfl ?_ | refine l_pT rfl ka rfl ?_ | refine l_pF rfl ka rfl ?_ | refine d_gT rfl (fun h => ?_) (fun h => ?_) | refine d_gF rfl (fun h => ?_) (fun h => ?_) | (refine l_req rfl ?_ ?_; · exact rq_S4) | (refine l_lk rfl ?_; refine ⟨_, lk_S4, ?_⟩) | refine l_look (l' := _ :: _) rfl rfl ?_ | refine l_look (l' := []) rfl rfl ?_ | refine l_req rfl ?_ ?_)
          rfl
        | true =>
          rw [hs] at c5 hM
          simp only [Bool.true_and] at hM
          by_cases hn : s.n = (L.length : Int)
          · have k1 : (s.n != (L.length : Int)) = false := by simpa using hn
            rw [decide_eq_true hn, Bool.true_and] at hM
            have key : ∀ M : Bool, decide (topM (s.a.drop L.length) < s.e) = M → ∀ (tm : Nat → AV) (gs : List AV), True := fun _ _ _ _ => trivial
            clear key
            by_cases h0 : 0 < L.length
            · have k2 : decide ((L.length : Int) > 0) = true := decide_eq_true (by omega)
              have w1 : IntKind.i64.wrap ((L.length : Int) - 1) = ((L.length - 1 : Nat) : Int) := by rw [wrap64 (by omega) (by omega)]; omega
              have g1 : 0 ≤ IntKind.i64.wrap ((L.length : Int) - 1) ∧ IntKind.i64.wrap ((L.length : Int) - 1) < (L.length : Int) := by rw [w1]; omega
              have hla : (L.getD (IntKind.i64.wrap ((L.length : Int) - 1)).toNat zeroR).a = lastA L := by rw [w1, Int.toNat_natCast]; rfl
              by_cases hq : s.e < lastA L
              · have k3 : decide ((L.getD (IntKind.i64.wrap ((L.length : Int) - 1)).toNat zeroR).a > s.e) = true := by rw [hla]; exact decide_eq_true hq
                rw [decide_eq_true h0, decide_eq_true hq] at hM
                simp only [Bool.and_true, Bool.not_true, Bool.false_and] at hM
                subst hM
                refine agood eok (fn := Try.f57) kr_ de_ rfl kr_ ok_S4 ok_S4 ?_
                repeat' (first | refine o_cons ?_ | refine w_ok rfl ?_ | refine w_call rfl (c1) ?_ | refine w_call rfl (c2) ?_ | refine w_call rfl (c3) ?_ | refine w_call rfl (c4) ?_ | refine w_call rfl (c5) ?_ | refine o_nil ?_ | refine q_then ?_ | refine sq ?_ | refine aw_seq ?_ | refine aw_reg ?_ | refine w_pT rfl ka rfl ?_ | refine w_pF rfl ka rfl ?_ | refine o_y rfl ka ?_ | refine o_nT rfl ka ?_ | refine o_nF rfl ka ?_ | refine o_nU rfl ?_ | refine aw_cT rfl ka ?_ | refine aw_cF rfl ka ?_ | refine o_gT rfl (fun h => ?_) (fun h => ?_) | refine o_gF rfl (fun h => ?_) (fun h => ?_) | refine aw_cond rfl (fun h => ?_) (fun h => ?_) | refine aw_block ?_ | refine aw_skip ?_ | refine aw_ret ?_ | refine q_ret ?_ | refine q_blockN ?_ | refine q_blockR ?_ | refine aw_exit ?_ | refine q_exit ?_ | refine q_blockE ?_ | refine q_blockX de_ ?_ | refine fin_r rfl ?_ | (refine w_req rfl ?_ ?_; · exact rq_S4) | (refine w_lk rfl ?_; refine ⟨_, lk_S4, ?_⟩) | refine w_look (l' := _ :: _) rfl rfl ?_ | refine w_look (l' := []) rfl rfl ?_ | refine w_req rfl ?_ ?_ | refine w_pick rfl (fun b => ?_) | refine l_call rfl (c1) ?_ | refine l_call rfl (c2) ?_ | refine l_call rfl (c3) ?_ | refine l_call rfl (c4) ?_ | refine l_call rfl (c5) ?_ | refine aw_drw kr_ ?_ | refine d_cons ?_ | refine l_ok rfl ?_ | refine d_nil kr_ ?_ | refine d_y rfl ka ?_ | refine d_nT rfl ka ?_ | refine d_nF rfl ka ?_ | refine d_nU rfl ?_ | refine l_pT rfl ka rfl ?_ | refine l_pF rfl ka rfl ?_ | refine d_gT rfl (fun h => ?_) (fun h => ?_) | refine d_gF rfl (fun h => ?_) (fun h => ?_) | (refine l_req rfl ?_ ?_; · exact rq_S4) | (refine l_lk rfl ?_; refine ⟨_, lk_S4, ?_⟩) | refine l_look (l' := _ :: _) rfl rfl ?_ | refine l_look (l' := []) rfl rfl ?_ | refine l_req rfl ?_ ?_)
                rfl
              · have k3 : decide ((L.getD (IntKind.i64.wrap ((L.length : Int) - 1)).toNat zeroR).a > s.e) = false := by rw [hla]; exact decide_eq_false hq
                rw [decide_eq_true h0, decide_eq_false hq] at hM
                simp only [Bool.and_false, Bool.not_false, Bool.true_and] at hM
                refine agood eok (fn := Try.f57) kr_ de_ rfl kr_ ok_S4 ok_S4 ?_
                repeat' (first | refine o_cons ?_ | refine w_ok rfl ?_ | refine w_call rfl (c1) ?_ | refine w_call rfl (c2) ?_ | refine w_call rfl (c3) ?_ | refine w_call rfl (c4) ?_ | refine w_call rfl (c5) ?_ | refine o_nil ?_ | refine q_then ?_ | refine sq ?_ | refine aw_seq ?_ | refine aw_reg ?_ | refine w_pT rfl ka rfl ?_ | refine w_pF rfl ka rfl ?_ | refine o_y rfl ka ?_ | refine o_nT rfl ka ?_ | refine o_nF rfl ka ?_ | refine o_nU rfl ?_ | refine aw_cT rfl ka ?_ | refine aw_cF rfl ka ?_ | refine o_gT rfl (fun h => ?_) (fun h => ?_) | refine o_gF rfl (fun h => ?_) (fun h => ?_) | refine aw_cond rfl (fun h => ?_) (fun h => ?_) | refine aw_block ?_ | refine aw_skip ?_ | refine aw_ret ?_ | refine q_ret ?_ | refine q_blockN ?_ | refine q_blockR ?_ | refine aw_exit ?_ | refine q_exit ?_ | refine q_blockE ?_ | refine q_blockX de_ ?_ | refine fin_r rfl ?_ | (refine w_req rfl ?_ ?_; · exact rq_S4) | (refine w_lk rfl ?_; refine ⟨_, lk_S4, ?_⟩) | refine w_look (l' := _ :: _) rfl rfl ?_ | refine w_look (l' := []) rfl rfl ?_ | refine w_req rfl ?_ ?_ | refine w_pick rfl (fun b => ?_) | refine l_call rfl (c1) ?_ | refine l_call rfl (c2) ?_ | refine l_call rfl (c3) ?_ | refine l_call rfl (c4) ?_ | refine l_call rfl (c5) ?_ | refine aw_drw kr_ ?_ | refine d_cons ?_ | refine l_ok rfl ?_ | refine d_nil kr_ ?_ | refine d_y rfl ka ?_ | refine d_nT rfl ka ?_ | refine d_nF rfl ka ?_ | refine d_nU rfl ?_ | refine l_pT rfl ka rfl ?_ | refine l_pF rfl ka rfl ?_ | refine d_gT rfl (fun h => ?_) (fun h => ?_) | refine d_gF rfl (fun h => ?_) (fun h => ?_) | (refine l_req rfl ?_ ?_; · exact rq_S4) | (refine l_lk rfl ?_; refine ⟨_, lk_S4, ?_⟩) | refine l_look (l' := _ :: _) rfl rfl ?_ | refine l_look (l' := []) rfl rfl ?_ | refine l_req rfl ?_ ?_)
                refine loop1 (fun i : Nat => ⟨tbl [(1, .ptr 2000 0 0 0), (6, .int .i64 i)], mbl [(2000, .box 0 56 [.ro none 1 s.a.length (sT s.a), .ro none 1 s.b.length (sT s.b), .int .i64 s.e, .int .i64 s.n, .ro none 4 s.u.length (uT s.u)])], [.agg [.ro (some 0) 1 s.a.length (sT s.a), .ro (some 1) 1 s.b.length (sT s.b), .int .i64 s.e, .int .i64 s.n, .ro (some 2) 4 s.u.length (uT s.u)]]⟩) (fun i => (L.length ≤ i ∧ i ≤ s.a.length) ∧ ∀ j, L.length ≤ j → j < i → ¬ ((getRecM (s.a.getD j emp)).isSome = true ∧ s.e ≤ (gR (s.a.getD j emp)).a)) (fun i => s.a.length - i) L.length ⟨⟨Nat.le_refl _, hsl⟩, fun j h1 h2 => by omega⟩ ?_ ?_
                · (refine le_of [(2000, 2000)] ?_; repeat' (first | exact trivial | refine an ?_ ?_ | with_reducible rfl | exact bt rfl | exact Or.inl rfl | exact Or.inr rfl | exact Eq.refl _))
                  all_goals first | exact hn | (exact hn.symm)
                rintro i ⟨⟨hi1, hi2⟩, hj⟩
                rcases Nat.lt_or_ge i s.a.length with hil | hil
                · have hc : decide ((i : Int) < (s.a.length : Int)) = true := by simp; omega
                  have g2 : 0 ≤ (i : Int) ∧ (i : Int) < (s.a.length : Int) := by omega
                  have c6 := getRecS (s.a.getD (i : Int).toNat emp) (getD_all (p := fun x : ByteArray => x.size ≤ 1048576) (fun x hx => by have := d3 x hx; omega) side_)
                  cases h1 : (getRecM (s.a.getD i emp)).isSome with
                  | false =>
                    have h1' : (getRecM (s.a.getD (i : Int).toNat emp)).isSome = false := h1
                    repeat' (first | refine o_cons ?_ | refine w_ok rfl ?_ | refine w_call rfl (c6) ?_ | refine o_nil ?_ | refine q_then ?_ | refine sq ?_ | refine aw_seq ?_ | refine aw_reg ?_ | refine w_pT rfl ka rfl ?_ | refine w_pF rfl ka rfl ?_ | refine o_y rfl ka ?_ | refine o_nT rfl ka ?_ | refine o_nF rfl ka ?_ | refine o_nU rfl ?_ | refine aw_cT rfl ka ?_ | refine aw_cF rfl ka ?_ | refine o_gT rfl (fun h => ?_) (fun h => ?_) | refine o_gF rfl (fun h => ?_) (fun h => ?_) | refine aw_cond rfl (fun h => ?_) (fun h => ?_) | refine aw_block ?_ | refine aw_skip ?_ | refine aw_ret ?_ | refine q_ret ?_ | refine q_blockN ?_ | refine q_blockR ?_ | refine aw_exit ?_ | refine q_exit ?_ | refine q_blockE ?_ | refine q_blockX de_ ?_ | refine fin_r rfl ?_ | (refine w_req rfl ?_ ?_; · exact rq_S4) | (refine w_lk rfl ?_; refine ⟨_, lk_S4, ?_⟩) | refine w_look (l' := _ :: _) rfl rfl ?_ | refine w_look (l' := []) rfl rfl ?_ | refine w_req rfl ?_ ?_ | refine w_pick rfl (fun b => ?_) | refine l_call rfl (c6) ?_ | refine aw_drw kr_ ?_ | refine d_cons ?_ | refine l_ok rfl ?_ | refine d_nil kr_ ?_ | refine d_y rfl ka ?_ | refine d_nT rfl ka ?_ | refine d_nF rfl ka ?_ | refine d_nU rfl ?_ | refine l_pT rfl ka rfl ?_ | refine l_pF rfl ka rfl ?_ | refine d_gT rfl (fun h => ?_) (fun h => ?_) | refine d_gF rfl (fun h => ?_) (fun h => ?_) | (refine l_req rfl ?_ ?_; · exact rq_S4) | (refine l_lk rfl ?_; refine ⟨_, lk_S4, ?_⟩) | refine l_look (l' := _ :: _) rfl rfl ?_ | refine l_look (l' := []) rfl rfl ?_ | refine l_req rfl ?_ ?_)
                    refine ⟨i + 1, ⟨⟨⟨by omega, by omega⟩, fun j p1 p2 => ?_⟩, by omega⟩, ?_⟩
                    · rcases Nat.lt_or_ge j i with h5 | h5
                      · exact hj j p1 h5
                      · have : j = i := by omega
                        subst this
                        rw [h1]
                        exact fun q => Bool.noConfusion q.1
                    (refine le_of [(2000, 2000)] ?_; repeat' (first | exact trivial | refine an ?_ ?_ | with_reducible rfl | exact bt rfl | exact Or.inl rfl | exact Or.inr rfl | exact Eq.refl _))
                    first | omega | (simp; done) | (rw [wrap64] <;> omega) | (simp; omega)
                  | true =>
                    have h1' : (getRecM (s.a.getD (i : Int).toNat emp)).isSome = true := h1
                    by_cases h2 : s.e ≤ (gR (s.a.getD i emp)).a
                    · have h2' : decide ((gR (s.a.getD (i : Int).toNat emp)).a ≥ s.e) = true := decide_eq_true h2
                      repeat' (first | refine o_cons ?_ | refine w_ok rfl ?_ | refine w_call rfl (c6) ?_ | refine o_nil ?_ | refine q_then ?_ | refine sq ?_ | refine aw_seq ?_ | refine aw_reg ?_ | refine w_pT rfl ka rfl ?_ | refine w_pF rfl ka rfl ?_ | refine o_y rfl ka ?_ | refine o_nT rfl ka ?_ | refine o_nF rfl ka ?_ | refine o_nU rfl ?_ | refine aw_cT rfl ka ?_ | refine aw_cF rfl ka ?_ | refine o_gT rfl (fun h => ?_) (fun h => ?_) | refine o_gF rfl (fun h => ?_) (fun h => ?_) | refine aw_cond rfl (fun h => ?_) (fun h => ?_) | refine aw_block ?_ | refine aw_skip ?_ | refine aw_ret ?_ | refine q_ret ?_ | refine q_blockN ?_ | refine q_blockR ?_ | refine aw_exit ?_ | refine q_exit ?_ | refine q_blockE ?_ | refine q_blockX de_ ?_ | refine fin_r rfl ?_ | (refine w_req rfl ?_ ?_; · exact rq_S4) | (refine w_lk rfl ?_; refine ⟨_, lk_S4, ?_⟩) | refine w_look (l' := _ :: _) rfl rfl ?_ | refine w_look (l' := []) rfl rfl ?_ | refine w_req rfl ?_ ?_ | refine w_pick rfl (fun b => ?_) | refine l_call rfl (c6) ?_ | refine aw_drw kr_ ?_ | refine d_cons ?_ | refine l_ok rfl ?_ | refine d_nil kr_ ?_ | refine d_y rfl ka ?_ | refine d_nT rfl ka ?_ | refine d_nF rfl ka ?_ | refine d_nU rfl ?_ | refine l_pT rfl ka rfl ?_ | refine l_pF rfl ka rfl ?_ | refine d_gT rfl (fun h => ?_) (fun h => ?_) | refine d_gF rfl (fun h => ?_) (fun h => ?_) | (refine l_req rfl ?_ ?_; · exact rq_S4) | (refine l_lk rfl ?_; refine ⟨_, lk_S4, ?_⟩) | refine l_look (l' := _ :: _) rfl rfl ?_ | refine l_look (l' := []) rfl rfl ?_ | refine l_req rfl ?_ ?_)
                      rw [← hM, top_not hi1 hil h1 h2]
                    · have h2' : decide ((gR (s.a.getD (i : Int).toNat emp)).a ≥ s.e) = false := decide_eq_false h2
                      repeat' (first | refine o_cons ?_ | refine w_ok rfl ?_ | refine w_call rfl (c6) ?_ | refine o_nil ?_ | refine q_then ?_ | refine sq ?_ | refine aw_seq ?_ | refine aw_reg ?_ | refine w_pT rfl ka rfl ?_ | refine w_pF rfl ka rfl ?_ | refine o_y rfl ka ?_ | refine o_nT rfl ka ?_ | refine o_nF rfl ka ?_ | refine o_nU rfl ?_ | refine aw_cT rfl ka ?_ | refine aw_cF rfl ka ?_ | refine o_gT rfl (fun h => ?_) (fun h => ?_) | refine o_gF rfl (fun h => ?_) (fun h => ?_) | refine aw_cond rfl (fun h => ?_) (fun h => ?_) | refine aw_block ?_ | refine aw_skip ?_ | refine aw_ret ?_ | refine q_ret ?_ | refine q_blockN ?_ | refine q_blockR ?_ | refine aw_exit ?_ | refine q_exit ?_ | refine q_blockE ?_ | refine q_blockX de_ ?_ | refine fin_r rfl ?_ | (refine w_req rfl ?_ ?_; · exact rq_S4) | (refine w_lk rfl ?_; refine ⟨_, lk_S4, ?_⟩) | refine w_look (l' := _ :: _) rfl rfl ?_ | refine w_look (l' := []) rfl rfl ?_ | refine w_req rfl ?_ ?_ | refine w_pick rfl (fun b => ?_) | refine l_call rfl (c6) ?_ | refine aw_drw kr_ ?_ | refine d_cons ?_ | refine l_ok rfl ?_ | refine d_nil kr_ ?_ | refine d_y rfl ka ?_ | refine d_nT rfl ka ?_ | refine d_nF rfl ka ?_ | refine d_nU rfl ?_ | refine l_pT rfl ka rfl ?_ | refine l_pF rfl ka rfl ?_ | refine d_gT rfl (fun h => ?_) (fun h => ?_) | refine d_gF rfl (fun h => ?_) (fun h => ?_) | (refine l_req rfl ?_ ?_; · exact rq_S4) | (refine l_lk rfl ?_; refine ⟨_, lk_S4, ?_⟩) | refine l_look (l' := _ :: _) rfl rfl ?_ | refine l_look (l' := []) rfl rfl ?_ | refine l_req rfl ?_ ?_)
                      refine ⟨i + 1, ⟨⟨⟨by omega, by omega⟩, fun j p1 p2 => ?_⟩, by omega⟩, ?_⟩
                      · rcases Nat.lt_or_ge j i with h5 | h5
                        · exact hj j p1 h5
                        · have : j = i := by omega
                          subst this
                          exact fun q => h2 q.2
                      (refine le_of [(2000, 2000)] ?_; repeat' (first | exact trivial | refine an ?_ ?_ | with_reducible rfl | exact bt rfl | exact Or.inl rfl | exact Or.inr rfl | exact Eq.refl _))
                      first | omega | (simp; done) | (rw [wrap64] <;> omega) | (simp; omega)
                · have hc : decide ((i : Int) < (s.a.length : Int)) = false := by simp; omega
                  repeat' (first | refine o_cons ?_ | refine w_ok rfl ?_ | refine o_nil ?_ | refine q_then ?_ | refine sq ?_ | refine aw_seq ?_ | refine aw_reg ?_ | refine w_pT rfl ka rfl ?_ | refine w_pF rfl ka rfl ?_ | refine o_y rfl ka ?_ | refine o_nT rfl ka ?_ | refine o_nF rfl ka ?_ | refine o_nU rfl ?_ | refine aw_cT rfl ka ?_ | refine aw_cF rfl ka ?_ | refine o_gT rfl (fun h => ?_) (fun h => ?_) | refine o_gF rfl (fun h => ?_) (fun h => ?_) | refine aw_cond rfl (fun h => ?_) (fun h => ?_) | refine aw_block ?_ | refine aw_skip ?_ | refine aw_ret ?_ | refine q_ret ?_ | refine q_blockN ?_ | refine q_blockR ?_ | refine aw_exit ?_ | refine q_exit ?_ | refine q_blockE ?_ | refine q_blockX de_ ?_ | refine fin_r rfl ?_ | (refine w_req rfl ?_ ?_; · exact rq_S4) | (refine w_lk rfl ?_; refine ⟨_, lk_S4, ?_⟩) | refine w_look (l' := _ :: _) rfl rfl ?_ | refine w_look (l' := []) rfl rfl ?_ | refine w_req rfl ?_ ?_ | refine w_pick rfl (fun b => ?_))
                  rw [← hM, top_end hee (fun j p1 p2 => hj j p1 (by omega))]
            · have k2 : decide ((L.length : Int) > 0) = false := decide_eq_false (by omega)
              rw [decide_eq_false h0] at hM
              simp only [Bool.false_and, Bool.not_false, Bool.true_and] at hM
              refine agood eok (fn := Try.f57) kr_ de_ rfl kr_ ok_S4 ok_S4 ?_
              repeat' (first | refine o_cons ?_ | refine w_ok rfl ?_ | refine w_call rfl (c1) ?_ | refine w_call rfl (c2) ?_ | refine w_call rfl (c3) ?_ | refine w_call rfl (c4) ?_ | refine w_call rfl (c5) ?_ | refine o_nil ?_ | refine q_then ?_ | refine sq ?_ | refine aw_seq ?_ | refine aw_reg ?_ | refine w_pT rfl ka rfl ?_ | refine w_pF rfl ka rfl ?_ | refine o_y rfl ka ?_ | refine o_nT rfl ka ?_ | refine o_nF rfl ka ?_ | refine o_nU rfl ?_ | refine aw_cT rfl ka ?_ | refine aw_cF rfl ka ?_ | refine o_gT rfl (fun h => ?_) (fun h => ?_) | refine o_gF rfl (fun h => ?_) (fun h => ?_) | refine aw_cond rfl (fun h => ?_) (fun h => ?_) | refine aw_block ?_ | refine aw_skip ?_ | refine aw_ret ?_ | refine q_ret ?_ | refine q_blockN ?_ | refine q_blockR ?_ | refine aw_exit ?_ | refine q_exit ?_ | refine q_blockE ?_ | refine q_blockX de_ ?_ | refine fin_r rfl ?_ | (refine w_req rfl ?_ ?_; · exact rq_S4) | (refine w_lk rfl ?_; refine ⟨_, lk_S4, ?_⟩) | refine w_look (l' := _ :: _) rfl rfl ?_ | refine w_look (l' := []) rfl rfl ?_ | refine w_req rfl ?_ ?_ | refine w_pick rfl (fun b => ?_) | refine l_call rfl (c1) ?_ | refine l_call rfl (c2) ?_ | refine l_call rfl (c3) ?_ | refine l_call rfl (c4) ?_ | refine l_call rfl (c5) ?_ | refine aw_drw kr_ ?_ | refine d_cons ?_ | refine l_ok rfl ?_ | refine d_nil kr_ ?_ | refine d_y rfl ka ?_ | refine d_nT rfl ka ?_ | refine d_nF rfl ka ?_ | refine d_nU rfl ?_ | refine l_pT rfl ka rfl ?_ | refine l_pF rfl ka rfl ?_ | refine d_gT rfl (fun h => ?_) (fun h => ?_) | refine d_gF rfl (fun h => ?_) (fun h => ?_) | (refine l_req rfl ?_ ?_; · exact rq_S4) | (refine l_lk rfl ?_; refine ⟨_, lk_S4, ?_⟩) | refine l_look (l' := _ :: _) rfl rfl ?_ | refine l_look (l' := []) rfl rfl ?_ | refine l_req rfl ?_ ?_)
              refine loop1 (fun i : Nat => ⟨tbl [(1, .ptr 2000 0 0 0), (6, .int .i64 i)], mbl [(2000, .box 0 56 [.ro none 1 s.a.length (sT s.a), .ro none 1 s.b.length (sT s.b), .int .i64 s.e, .int .i64 s.n, .ro none 4 s.u.length (uT s.u)])], [.agg [.ro (some 0) 1 s.a.length (sT s.a), .ro (some 1) 1 s.b.length (sT s.b), .int .i64 s.e, .int .i64 s.n, .ro (some 2) 4 s.u.length (uT s.u)]]⟩) (fun i => (L.length ≤ i ∧ i ≤ s.a.length) ∧ ∀ j, L.length ≤ j → j < i → ¬ ((getRecM (s.a.getD j emp)).isSome = true ∧ s.e ≤ (gR (s.a.getD j emp)).a)) (fun i => s.a.length - i) L.length ⟨⟨Nat.le_refl _, hsl⟩, fun j h1 h2 => by omega⟩ ?_ ?_
              · (refine le_of [(2000, 2000)] ?_; repeat' (first | exact trivial | refine an ?_ ?_ | with_reducible rfl | exact bt rfl | exact Or.inl rfl | exact Or.inr rfl | exact Eq.refl _))
                all_goals first | exact hn | (exact hn.symm)
              rintro i ⟨⟨hi1, hi2⟩, hj⟩
              rcases Nat.lt_or_ge i s.a.length with hil | hil
              · have hc : decide ((i : Int) < (s.a.length : Int)) = true := by simp; omega
                have g2 : 0 ≤ (i : Int) ∧ (i : Int) < (s.a.length : Int) := by omega
                have c6 := getRecS (s.a.getD (i : Int).toNat emp) (getD_all (p := fun x : ByteArray => x.size ≤ 1048576) (fun x hx => by have := d3 x hx; omega) side_)
                cases h1 : (getRecM (s.a.getD i emp)).isSome with
                | false =>
                  have h1' : (getRecM (s.a.getD (i : Int).toNat emp)).isSome = false := h1
                  repeat' (first | refine o_cons ?_ | refine w_ok rfl ?_ | refine w_call rfl (c6) ?_ | refine o_nil ?_ | refine q_then ?_ | refine sq ?_ | refine aw_seq ?_ | refine aw_reg ?_ | refine w_pT rfl ka rfl ?_ | refine w_pF rfl ka rfl ?_ | refine o_y rfl ka ?_ | refine o_nT rfl ka ?_ | refine o_nF rfl ka ?_ | refine o_nU rfl ?_ | refine aw_cT rfl ka ?_ | refine aw_cF rfl ka ?_ | refine o_gT rfl (fun h => ?_) (fun h => ?_) | refine o_gF rfl (fun h => ?_) (fun h => ?_) | refine aw_cond rfl (fun h => ?_) (fun h => ?_) | refine aw_block ?_ | refine aw_skip ?_ | refine aw_ret ?_ | refine q_ret ?_ | refine q_blockN ?_ | refine q_blockR ?_ | refine aw_exit ?_ | refine q_exit ?_ | refine q_blockE ?_ | refine q_blockX de_ ?_ | refine fin_r rfl ?_ | (refine w_req rfl ?_ ?_; · exact rq_S4) | (refine w_lk rfl ?_; refine ⟨_, lk_S4, ?_⟩) | refine w_look (l' := _ :: _) rfl rfl ?_ | refine w_look (l' := []) rfl rfl ?_ | refine w_req rfl ?_ ?_ | refine w_pick rfl (fun b => ?_) | refine l_call rfl (c6) ?_ | refine aw_drw kr_ ?_ | refine d_cons ?_ | refine l_ok rfl ?_ | refine d_nil kr_ ?_ | refine d_y rfl ka ?_ | refine d_nT rfl ka ?_ | refine d_nF rfl ka ?_ | refine d_nU rfl ?_ | refine l_pT rfl ka rfl ?_ | refine l_pF rfl ka rfl ?_ | refine d_gT rfl (fun h => ?_) (fun h => ?_) | refine d_gF rfl (fun h => ?_) (fun h => ?_) | (refine l_req rfl ?_ ?_; · exact rq_S4) | (refine l_lk rfl ?_; refine ⟨_, lk_S4, ?_⟩) | refine l_look (l' := _ :: _) rfl rfl ?_ | refine l_look (l' := []) rfl rfl ?_ | refine l_req rfl ?_ ?_)
                  refine ⟨i + 1, ⟨⟨⟨by omega, by omega⟩, fun j p1 p2 => ?_⟩, by omega⟩, ?_⟩
                  · rcases Nat.lt_or_ge j i with h5 | h5
                    · exact hj j p1 h5
                    · have : j = i := by omega
                      subst this
                      rw [h1]
                      exact fun q => Bool.noConfusion q.1
                  (refine le_of [(2000, 2000)] ?_; repeat' (first | exact trivial | refine an ?_ ?_ | with_reducible rfl | exact bt rfl | exact Or.inl rfl | exact Or.inr rfl | exact Eq.refl _))
                  first | omega | (simp; done) | (rw [wrap64] <;> omega) | (simp; omega)
                | true =>
                  have h1' : (getRecM (s.a.getD (i : Int).toNat emp)).isSome = true := h1
                  by_cases h2 : s.e ≤ (gR (s.a.getD i emp)).a
                  · have h2' : decide ((gR (s.a.getD (i : Int).toNat emp)).a ≥ s.e) = true := decide_eq_true h2
                    repeat' (first | refine o_cons ?_ | refine w_ok rfl ?_ | refine w_call rfl (c6) ?_ | refine o_nil ?_ | refine q_then ?_ | refine sq ?_ | refine aw_seq ?_ | refine aw_reg ?_ | refine w_pT rfl ka rfl ?_ | refine w_pF rfl ka rfl ?_ | refine o_y rfl ka ?_ | refine o_nT rfl ka ?_ | refine o_nF rfl ka ?_ | refine o_nU rfl ?_ | refine aw_cT rfl ka ?_ | refine aw_cF rfl ka ?_ | refine o_gT rfl (fun h => ?_) (fun h => ?_) | refine o_gF rfl (fun h => ?_) (fun h => ?_) | refine aw_cond rfl (fun h => ?_) (fun h => ?_) | refine aw_block ?_ | refine aw_skip ?_ | refine aw_ret ?_ | refine q_ret ?_ | refine q_blockN ?_ | refine q_blockR ?_ | refine aw_exit ?_ | refine q_exit ?_ | refine q_blockE ?_ | refine q_blockX de_ ?_ | refine fin_r rfl ?_ | (refine w_req rfl ?_ ?_; · exact rq_S4) | (refine w_lk rfl ?_; refine ⟨_, lk_S4, ?_⟩) | refine w_look (l' := _ :: _) rfl rfl ?_ | refine w_look (l' := []) rfl rfl ?_ | refine w_req rfl ?_ ?_ | refine w_pick rfl (fun b => ?_) | refine l_call rfl (c6) ?_ | refine aw_drw kr_ ?_ | refine d_cons ?_ | refine l_ok rfl ?_ | refine d_nil kr_ ?_ | refine d_y rfl ka ?_ | refine d_nT rfl ka ?_ | refine d_nF rfl ka ?_ | refine d_nU rfl ?_ | refine l_pT rfl ka rfl ?_ | refine l_pF rfl ka rfl ?_ | refine d_gT rfl (fun h => ?_) (fun h => ?_) | refine d_gF rfl (fun h => ?_) (fun h => ?_) | (refine l_req rfl ?_ ?_; · exact rq_S4) | (refine l_lk rfl ?_; refine ⟨_, lk_S4, ?_⟩) | refine l_look (l' := _ :: _) rfl rfl ?_ | refine l_look (l' := []) rfl rfl ?_ | refine l_req rfl ?_ ?_)
                    rw [← hM, top_not hi1 hil h1 h2]
                  · have h2' : decide ((gR (s.a.getD (i : Int).toNat emp)).a ≥ s.e) = false := decide_eq_false h2
                    repeat' (first | refine o_cons ?_ | refine w_ok rfl ?_ | refine w_call rfl (c6) ?_ | refine o_nil ?_ | refine q_then ?_ | refine sq ?_ | refine aw_seq ?_ | refine aw_reg ?_ | refine w_pT rfl ka rfl ?_ | refine w_pF rfl ka rfl ?_ | refine o_y rfl ka ?_ | refine o_nT rfl ka ?_ | refine o_nF rfl ka ?_ | refine o_nU rfl ?_ | refine aw_cT rfl ka ?_ | refine aw_cF rfl ka ?_ | refine o_gT rfl (fun h => ?_) (fun h => ?_) | refine o_gF rfl (fun h => ?_) (fun h => ?_) | refine aw_cond rfl (fun h => ?_) (fun h => ?_) | refine aw_block ?_ | refine aw_skip ?_ | refine aw_ret ?_ | refine q_ret ?_ | refine q_blockN ?_ | refine q_blockR ?_ | refine aw_exit ?_ | refine q_exit ?_ | refine q_blockE ?_ | refine q_blockX de_ ?_ | refine fin_r rfl ?_ | (refine w_req rfl ?_ ?_; · exact rq_S4) | (refine w_lk rfl ?_; refine ⟨_, lk_S4, ?_⟩) | refine w_look (l' := _ :: _) rfl rfl ?_ | refine w_look (l' := []) rfl rfl ?_ | refine w_req rfl ?_ ?_ | refine w_pick rfl (fun b => ?_) | refine l_call rfl (c6) ?_ | refine aw_drw kr_ ?_ | refine d_cons ?_ | refine l_ok rfl ?_ | refine d_nil kr_ ?_ | refine d_y rfl ka ?_ | refine d_nT rfl ka ?_ | refine d_nF rfl ka ?_ | refine d_nU rfl ?_ | refine l_pT rfl ka rfl ?_ | refine l_pF rfl ka rfl ?_ | refine d_gT rfl (fun h => ?_) (fun h => ?_) | refine d_gF rfl (fun h => ?_) (fun h => ?_) | (refine l_req rfl ?_ ?_; · exact rq_S4) | (refine l_lk rfl ?_; refine ⟨_, lk_S4, ?_⟩) | refine l_look (l' := _ :: _) rfl rfl ?_ | refine l_look (l' := []) rfl rfl ?_ | refine l_req rfl ?_ ?_)
                    refine ⟨i + 1, ⟨⟨⟨by omega, by omega⟩, fun j p1 p2 => ?_⟩, by omega⟩, ?_⟩
                    · rcases Nat.lt_or_ge j i with h5 | h5
                      · exact hj j p1 h5
                      · have : j = i := by omega
                        subst this
                        exact fun q => h2 q.2
                    (refine le_of [(2000, 2000)] ?_; repeat' (first | exact trivial | refine an ?_ ?_ | with_reducible rfl | exact bt rfl | exact Or.inl rfl | exact Or.inr rfl | exact Eq.refl _))
                    first | omega | (simp; done) | (rw [wrap64] <;> omega) | (simp; omega)
              · have hc : decide ((i : Int) < (s.a.length : Int)) = false := by simp; omega
                repeat' (first | refine o_cons ?_ | refine w_ok rfl ?_ | refine o_nil ?_ | refine q_then ?_ | refine sq ?_ | refine aw_seq ?_ | refine aw_reg ?_ | refine w_pT rfl ka rfl ?_ | refine w_pF rfl ka rfl ?_ | refine o_y rfl ka ?_ | refine o_nT rfl ka ?_ | refine o_nF rfl ka ?_ | refine o_nU rfl ?_ | refine aw_cT rfl ka ?_ | refine aw_cF rfl ka ?_ | refine o_gT rfl (fun h => ?_) (fun h => ?_) | refine o_gF rfl (fun h => ?_) (fun h => ?_) | refine aw_cond rfl (fun h => ?_) (fun h => ?_) | refine aw_block ?_ | refine aw_skip ?_ | refine aw_ret ?_ | refine q_ret ?_ | refine q_blockN ?_ | refine q_blockR ?_ | refine aw_exit ?_ | refine q_exit ?_ | refine q_blockE ?_ | refine q_blockX de_ ?_ | refine fin_r rfl ?_ | (refine w_req rfl ?_ ?_; · exact rq_S4) | (refine w_lk rfl ?_; refine ⟨_, lk_S4, ?_⟩) | refine w_look (l' := _ :: _) rfl rfl ?_ | refine w_look (l' := []) rfl rfl ?_ | refine w_req rfl ?_ ?_ | refine w_pick rfl (fun b => ?_))
                rw [← hM, top_end hee (fun j p1 p2 => hj j p1 (by omega))]
          · have k1 : (s.n != (L.length : Int)) = true := by simpa using hn
            rw [decide_eq_false hn] at hM
            simp only [Bool.false_and] at hM
            subst hM
            refine agood eok (fn := Try.f57) kr_ de_ rfl kr_ ok_S4 ok_S4 ?_
            repeat' (first | refine o_cons ?_ | refine w_ok rfl ?_ | refine w_call rfl (c1) ?_ | refine w_call rfl (c2) ?_ | refine w_call rfl (c3) ?_ | refine w_call rfl (c4) ?_ | refine w_call rfl (c5) ?_ | refine o_nil ?_ | refine q_then ?_ | refine sq ?_ | refine aw_seq ?_ | refine aw_reg ?_ | refine w_pT rfl ka rfl ?_ | refine w_pF rfl ka rfl ?_ | refine o_y rfl ka ?_ | refine o_nT rfl ka ?_ | refine o_nF rfl ka ?_ | refine o_nU rfl ?_ | refine aw_cT rfl ka ?_ | refine aw_cF rfl ka ?_ | refine o_gT rfl (fun h => ?_) (fun h => ?_) | refine o_gF rfl (fun h => ?_) (fun h => ?_) | refine aw_cond rfl (fun h => ?_) (fun h => ?_) | refine aw_block ?_ | refine aw_skip ?_ | refine aw_ret ?_ | refine q_ret ?_ | refine q_blockN ?_ | refine q_blockR ?_ | refine aw_exit ?_ | refine q_exit ?_ | refine q_blockE ?_ | refine q_blockX de_ ?_ | refine fin_r rfl ?_ | (refine w_req rfl ?_ ?_; · exact rq_S4) | (refine w_lk rfl ?_; refine ⟨_, lk_S4, ?_⟩) | refine w_look (l' := _ :: _) rfl rfl ?_ | refine w_look (l' := []) rfl rfl ?_ | refine w_req rfl ?_ ?_ | refine w_pick rfl (fun b => ?_) | refine l_call rfl (c1) ?_ | refine l_call rfl (c2) ?_ | refine l_call rfl (c3) ?_ | refine l_call rfl (c4) ?_ | refine l_call rfl (c5) ?_ | refine aw_drw kr_ ?_ | refine d_cons ?_ | refine l_ok rfl ?_ | refine d_nil kr_ ?_ | refine d_y rfl ka ?_ | refine d_nT rfl ka ?_ | refine d_nF rfl ka ?_ | refine d_nU rfl ?_ | refine l_pT rfl ka rfl ?_ | refine l_pF rfl ka rfl ?_ | refine d_gT rfl (fun h => ?_) (fun h => ?_) | refine d_gF rfl (fun h => ?_) (fun h => ?_) | (refine l_req rfl ?_ ?_; · exact rq_S4) | (refine l_lk rfl ?_; refine ⟨_, lk_S4, ?_⟩) | refine l_look (l' := _ :: _) rfl rfl ?_ | refine l_look (l' := []) rfl rfl ?_ | refine l_req rfl ?_ ?_)
            rfl
end Go.Proofs.Ytbkpmljdmlhmhaa
