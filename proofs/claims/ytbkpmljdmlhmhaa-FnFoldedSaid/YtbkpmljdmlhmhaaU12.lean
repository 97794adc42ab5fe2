import Derived.Test.YtbkpmljdmlhmhaaU11
namespace Go.Proofs.Ytbkpmljdmlhmhaa
open Go Go.AM Ty
set_option maxRecDepth 100000
set_option maxHeartbeats 4000000
set_option linter.unusedVariables false
set_option linter.unusedSimpArgs false
attribute [local irreducible] aw aops aopsD wpo wpoL condW guardW thenQ blockQ finQ Le AGood
theorem rq_U12 {p : Prop} (h : p := by first | assumption | exact rT_plain _ | exact uT_plain _ | exact rq_) : p := h
theorem lk_U12 {p : Prop} (h : p := by first | exact bT_app _ _ | exact rT_el side_ | exact lk_) : p := h
theorem ok_U12 {p : Prop} (h : p := by first | exact foldR_ok _ | (simp [Tr.okR, Tr.okRL, Tr.plainL, Tr.plain, cells1, Tr.cellB, PB.okRL, PB.okR, bT_plain, sT_plain, oT_plain, nT_plain, rT_plain, uT_plain]; done) | exact ok_) : p := h
theorem foldI (l : List Rc) {n : Nat} (hn : n = l.length) (hl : l.length ≤ 4294967296) (hd : sumD l ≤ 1048576) : AGood e.P 52 [.ro (.row 6 n (rT l))] (foldR (foldM [] l)) [.keep] := by
  subst hn
  have hM : ∃ M, foldM [] l = M := ⟨_, rfl⟩
  obtain ⟨M, hM⟩ := hM
  rw [hM]
  refine agood eok (fn := Try.f52) kr_ de_ rfl kr_ ok_U12 ok_U12 ?_
  repeat' (first | refine o_cons ?_ | refine w_ok rfl ?_ | refine o_nil ?_ | refine q_then ?_ | refine sq ?_ | refine aw_seq ?_ | refine aw_reg ?_ | refine w_pT rfl ka rfl ?_ | refine w_pF rfl ka rfl ?_ | refine o_y rfl ka ?_ | refine o_nT rfl ka ?_ | refine o_nF rfl ka ?_ | refine o_nU rfl ?_ | refine aw_cT rfl ka ?_ | refine aw_cF rfl ka ?_ | refine o_gT rfl (fun h => ?_) (fun h => ?_) | refine o_gF rfl (fun h => ?_) (fun h => ?_) | refine aw_cond rfl (fun h => ?_) (fun h => ?_) | refine aw_block ?_ | refine aw_skip ?_ | refine aw_ret ?_ | refine q_ret ?_ | refine q_blockN ?_ | refine q_blockR ?_ | refine aw_exit ?_ | refine q_exit ?_ | refine q_blockE ?_ | refine q_blockX de_ ?_ | refine fin_r rfl ?_ | (refine w_req rfl ?_ ?_; · exact rq_U12) | (refine w_lk rfl ?_; refine ⟨_, lk_U12, ?_⟩) | refine w_look (l' := _ :: _) rfl rfl ?_ | refine w_look (l' := []) rfl rfl ?_ | refine w_req rfl ?_ ?_ | refine w_pick rfl (fun b => ?_))
  refine loop2 (fun (i : Nat) (out : List Upp) => ⟨tbl [(0, .ro none 6 l.length (rT l)), (4, .own 50000 0), (9, .ro none 6 l.length (rT l)), (10, .int .i64 l.length), (11, .int .i64 i)], mbl [(50000, .row 0 0 4 out.length (uT out))], [.ro (some 0) 6 l.length (rT l)]⟩) (fun i out => i ≤ l.length ∧ foldM out (l.drop i) = M ∧ out.length ≤ 10 ∧ Srt out ∧ ∀ x ∈ out, x.d.length ≤ sumD (l.take i)) (fun i _ => l.length - i) 0 [] ?_ ?_ ?_
  · exact ⟨Nat.zero_le _, hM, Nat.zero_le _, List.Pairwise.nil, fun x hx => by cases hx⟩
  · refine Le.trans (Le.nilT 4 50000 0 4 rfl (fun b0 h => by cases h)) ?_
    (refine le_of [(50000, 50000)] ?_; repeat' (first | exact trivial | refine an ?_ ?_ | with_reducible rfl | exact bt rfl | exact Or.inl rfl | exact Or.inr rfl | exact Eq.refl _))
  rintro i out ⟨hi, hm, ho, hso, hx⟩
  rcases Nat.lt_or_ge i l.length with hil | hil
  · have hc : decide ((i : Int) < (l.length : Int)) = true := by simp; omega
    have hs := sumD_take hil
    have g1 : 0 ≤ (i : Int) ∧ (i : Int) < (l.length : Int) := by omega
    have hs2 := sumD_le l (i + 1)
    have hxx : ∀ x ∈ out, x.d.length ≤ 1048576 := fun x h => by have := hx x h; omega
    have hrr : (l.getD (i : Int).toNat zeroR).d.length ≤ 1048576 := by rw [Int.toNat_natCast]; omega
    rw [List.drop_eq_getElem_cons hil] at hm
    have hge : l[i] = l.getD (i : Int).toNat zeroR := by rw [Int.toNat_natCast, List.getD_eq_getElem?_getD, List.getElem?_eq_getElem hil]; rfl
    rw [hge] at hm
    unfold foldM at hm
    have hfo := fold_one (l.getD (i : Int).toNat zeroR) hso
    cases h1 : oneM out (l.getD (i : Int).toNat zeroR) with
    | some l' =>
      rw [h1] at hm
      have hl' := oneM_len h1 ho
      have hd' := oneM_d h1 hx
      have hs' := srt_one hso h1
      have c1 := foldIn out l' rfl (l.getD (i : Int).toNat zeroR) rfl ho hxx hrr (hfo.trans h1)
      repeat' (first | refine o_cons ?_ | refine w_ok rfl ?_ | refine w_call rfl (c1) ?_ | refine o_nil ?_ | refine q_then ?_ | refine sq ?_ | refine aw_seq ?_ | refine aw_reg ?_ | refine w_pT rfl ka rfl ?_ | refine w_pF rfl ka rfl ?_ | refine o_y rfl ka ?_ | refine o_nT rfl ka ?_ | refine o_nF rfl ka ?_ | refine o_nU rfl ?_ | refine aw_cT rfl ka ?_ | refine aw_cF rfl ka ?_ | refine o_gT rfl (fun h => ?_) (fun h => ?_) | refine o_gF rfl (fun h => ?_) (fun h => ?_) | refine aw_cond rfl (fun h => ?_) (fun h => ?_) | refine aw_block ?_ | refine aw_skip ?_ | refine aw_ret ?_ | refine q_ret ?_ | refine q_blockN ?_ | refine q_blockR ?_ | refine aw_exit ?_ | refine q_exit ?_ | refine q_blockE ?_ | refine q_blockX de_ ?_ | refine fin_r rfl ?_ | (refine w_req rfl ?_ ?_; · exact rq_U12) | (refine w_lk rfl ?_; refine ⟨_, lk_U12, ?_⟩) | refine w_look (l' := _ :: _) rfl rfl ?_ | refine w_look (l' := []) rfl rfl ?_ | refine w_req rfl ?_ ?_ | refine w_pick rfl (fun b => ?_))
      refine ⟨i + 1, l', ⟨⟨by omega, hm, hl', hs', fun x h => by have := hd' x h; rw [hs]; rw [Int.toNat_natCast] at this; exact this⟩, by omega⟩, ?_⟩
      (refine le_of [(50000, 19000)] ?_; repeat' (first | exact trivial | refine an ?_ ?_ | with_reducible rfl | exact bt rfl | exact Or.inl rfl | exact Or.inr rfl | exact Eq.refl _))
      all_goals (first | omega | (simp; done) | (rw [wrap64] <;> omega) | (simp; omega))
    | none =>
      rw [h1] at hm
      subst hm
      have c1 := foldOut out rfl (l.getD (i : Int).toNat zeroR) rfl ho hxx hrr (hfo.trans h1)
      repeat' (first | refine o_cons ?_ | refine w_ok rfl ?_ | refine w_call rfl (c1) ?_ | refine o_nil ?_ | refine q_then ?_ | refine sq ?_ | refine aw_seq ?_ | refine aw_reg ?_ | refine w_pT rfl ka rfl ?_ | refine w_pF rfl ka rfl ?_ | refine o_y rfl ka ?_ | refine o_nT rfl ka ?_ | refine o_nF rfl ka ?_ | refine o_nU rfl ?_ | refine aw_cT rfl ka ?_ | refine aw_cF rfl ka ?_ | refine o_gT rfl (fun h => ?_) (fun h => ?_) | refine o_gF rfl (fun h => ?_) (fun h => ?_) | refine aw_cond rfl (fun h => ?_) (fun h => ?_) | refine aw_block ?_ | refine aw_skip ?_ | refine aw_ret ?_ | refine q_ret ?_ | refine q_blockN ?_ | refine q_blockR ?_ | refine aw_exit ?_ | refine q_exit ?_ | refine q_blockE ?_ | refine q_blockX de_ ?_ | refine fin_r rfl ?_ | (refine w_req rfl ?_ ?_; · exact rq_U12) | (refine w_lk rfl ?_; refine ⟨_, lk_U12, ?_⟩) | refine w_look (l' := _ :: _) rfl rfl ?_ | refine w_look (l' := []) rfl rfl ?_ | refine w_req rfl ?_ ?_ | refine w_pick rfl (fun b => ?_))
      all_goals rfl
  · have hc : decide ((i : Int) < (l.length : Int)) = false := by simp; omega
    rw [List.drop_eq_nil_of_le hil] at hm
    unfold foldM at hm
    subst hm
    repeat' (first | refine o_cons ?_ | refine w_ok rfl ?_ | refine o_nil ?_ | refine q_then ?_ | refine sq ?_ | refine aw_seq ?_ | refine aw_reg ?_ | refine w_pT rfl ka rfl ?_ | refine w_pF rfl ka rfl ?_ | refine o_y rfl ka ?_ | refine o_nT rfl ka ?_ | refine o_nF rfl ka ?_ | refine o_nU rfl ?_ | refine aw_cT rfl ka ?_ | refine aw_cF rfl ka ?_ | refine o_gT rfl (fun h => ?_) (fun h => ?_) | refine o_gF rfl (fun h => ?_) (fun h => ?_) | refine aw_cond rfl (fun h => ?_) (fun h => ?_) | refine aw_block ?_ | refine aw_skip ?_ | refine aw_ret ?_ | refine q_ret ?_ | refine q_blockN ?_ | refine q_blockR ?_ | refine aw_exit ?_ | refine q_exit ?_ | refine q_blockE ?_ | refine q_blockX de_ ?_ | refine fin_r rfl ?_ | (refine w_req rfl ?_ ?_; · exact rq_U12) | (refine w_lk rfl ?_; refine ⟨_, lk_U12, ?_⟩) | refine w_look (l' := _ :: _) rfl rfl ?_ | refine w_look (l' := []) rfl rfl ?_ | refine w_req rfl ?_ ?_ | refine w_pick rfl (fun b => ?_))
    all_goals rfl
end Go.Proofs.Ytbkpmljdmlhmhaa
