import Derived.Test.YtbkpmljdmlhmhaaU7
namespace Go.Proofs.Ytbkpmljdmlhmhaa
open Go Go.AM Ty
set_option maxRecDepth 100000
set_option maxHeartbeats 4000000
set_option linter.unusedVariables false
set_option linter.unusedSimpArgs false
attribute [local irreducible] aw aops aopsD wpo wpoL condW guardW thenQ blockQ finQ Le AGood
theorem rq_U8 {p : Prop} (h : p := by first | assumption | exact rT_plain _ | exact uT_plain _ | exact rq_) : p := h
theorem lk_U8 {p : Prop} (h : p := by first | exact bT_app _ _ | exact rT_el side_ | exact lk_) : p := h
theorem ok_U8 {p : Prop} (h : p := by first | exact foldR_ok _ | (simp [Tr.okR, Tr.okRL, Tr.plainL, Tr.plain, cells1, Tr.cellB, PB.okRL, PB.okR, bT_plain, sT_plain, oT_plain, nT_plain, rT_plain, uT_plain]; done) | exact ok_) : p := h
/-- what records make of uploads -/
def foldM : List Upp → List Rc → Option (List Upp)
  | l, [] => some l
  | l, r :: rs => match oneM l r with
    | none => none
    | some l' => foldM l' rs
def sumD (l : List Rc) : Nat := (l.map fun r => r.d.length).sum
theorem oneM_len {l l' : List Upp} {r : Rc} (h : oneM l r = some l') (hl : l.length ≤ 10) : l'.length ≤ 10 := by
  unfold oneM at h
  split at h
  · split at h
    · rename_i h1
      injection h with h
      subst h
      simp at h1
      rw [makeM_len]
      omega
    · cases h
  · split at h
    · cases h
    · split at h
      · split at h
        · cases h
        · injection h with h
          subst h
          simpa using hl
      · split at h
        · split at h
          · cases h
          · injection h with h
            subst h
            simpa using hl
        · split at h
          · injection h with h
            subst h
            exact Nat.le_trans (List.length_eraseIdx_le _ _) hl
          · cases h
theorem oneM_d {l l' : List Upp} {r : Rc} {B : Nat} (h : oneM l r = some l') (hl : ∀ x ∈ l, x.d.length ≤ B) : ∀ x ∈ l', x.d.length ≤ B + r.d.length := by
  have hg : ∀ i, (l.getD i zeroU).d.length ≤ B := fun i => by
    rcases Nat.lt_or_ge i l.length with hi | hi
    · exact getD_all hl hi
    · rw [List.getD_eq_getElem?_getD, List.getElem?_eq_none hi]
      exact Nat.zero_le _
  unfold oneM at h
  split at h
  · split at h
    · injection h with h
      subst h
      intro x hx
      unfold makeM at hx
      rcases List.mem_append.1 hx with h | h
      · exact Nat.le_trans (hl x (List.mem_of_mem_take h)) (Nat.le_add_right _ _)
      · rcases List.mem_cons.1 h with h | h
        · subst h
          exact Nat.zero_le _
        · exact Nat.le_trans (hl x (List.mem_of_mem_drop h)) (Nat.le_add_right _ _)
    · cases h
  · split at h
    · cases h
    · rename_i i _
      split at h
      · split at h
        · cases h
        · injection h with h
          subst h
          intro x hx
          rcases List.mem_or_eq_of_mem_set hx with h | h
          · exact Nat.le_trans (hl x h) (Nat.le_add_right _ _)
          · subst h
            simp only [List.length_append]
            have := hg i
            omega
      · split at h
        · split at h
          · cases h
          · injection h with h
            subst h
            intro x hx
            rcases List.mem_or_eq_of_mem_set hx with h | h
            · exact Nat.le_trans (hl x h) (Nat.le_add_right _ _)
            · subst h
              exact Nat.le_trans (hg i) (Nat.le_add_right _ _)
        · split at h
          · injection h with h
            subst h
            intro x hx
            exact Nat.le_trans (hl x (List.mem_of_mem_eraseIdx hx)) (Nat.le_add_right _ _)
          · cases h
def foldR : Option (List Upp) → Tr
  | none => .tup [.row 4 0 [], .bool false]
  | some u => .tup [.row 4 u.length (uT u), .bool true]
theorem foldR_ok (M : Option (List Upp)) : (foldR M).okR := by
  cases M <;> simp [foldR, Tr.okR, Tr.okRL, Tr.plainL, Tr.plain, uT_plain]
theorem sumD_take {l : List Rc} {i : Nat} (h : i < l.length) : sumD (l.take (i + 1)) = sumD (l.take i) + (l.getD i zeroR).d.length := by
  unfold sumD
  rw [take_succ_getD (z := zeroR) h]
  simp
theorem sumD_le (l : List Rc) (i : Nat) : sumD (l.take i) ≤ sumD l := by
  unfold sumD
  have := congrArg (fun l : List Rc => (l.map fun r => r.d.length).sum) (List.take_append_drop i l)
  simp only [List.map_append, List.sum_append] at this
  omega
theorem foldS (l : List Rc) {n : Nat} (hn : n = l.length) (hl : l.length ≤ 4294967296) (hd : sumD l ≤ 1048576) : AGood e.P 50 [.ro (.row 6 n (rT l))] (foldR (foldM [] l)) [.keep] := by
  subst hn
  have hM : ∃ M, foldM [] l = M := ⟨_, rfl⟩
  obtain ⟨M, hM⟩ := hM
  rw [hM]
  refine agood eok (fn := Try.f50) kr_ de_ rfl kr_ ok_U8 ok_U8 ?_
  repeat' (first | refine o_cons ?_ | refine w_ok rfl ?_ | refine o_nil ?_ | refine q_then ?_ | refine sq ?_ | refine aw_seq ?_ | refine aw_reg ?_ | refine w_pT rfl ka rfl ?_ | refine w_pF rfl ka rfl ?_ | refine o_y rfl ka ?_ | refine o_nT rfl ka ?_ | refine o_nF rfl ka ?_ | refine o_nU rfl ?_ | refine aw_cT rfl ka ?_ | refine aw_cF rfl ka ?_ | refine o_gT rfl (fun h => ?_) (fun h => ?_) | refine o_gF rfl (fun h => ?_) (fun h => ?_) | refine aw_cond rfl (fun h => ?_) (fun h => ?_) | refine aw_block ?_ | refine aw_skip ?_ | refine aw_ret ?_ | refine q_ret ?_ | refine q_blockN ?_ | refine q_blockR ?_ | refine aw_exit ?_ | refine q_exit ?_ | refine q_blockE ?_ | refine q_blockX de_ ?_ | refine fin_r rfl ?_ | (refine w_req rfl ?_ ?_; · exact rq_U8) | (refine w_lk rfl ?_; refine ⟨_, lk_U8, ?_⟩) | refine w_look (l' := _ :: _) rfl rfl ?_ | refine w_look (l' := []) rfl rfl ?_ | refine w_req rfl ?_ ?_ | refine w_pick rfl (fun b => ?_))
  refine loop2 (fun (i : Nat) (out : List Upp) => ⟨tbl [(0, .ro none 6 l.length (rT l)), (4, .own 9000 0), (5, .int .i64 i)], mbl [(9000, .row 0 0 4 out.length (uT out))], [.ro (some 0) 6 l.length (rT l)]⟩) (fun i out => i ≤ l.length ∧ foldM out (l.drop i) = M ∧ out.length ≤ 10 ∧ ∀ x ∈ out, x.d.length ≤ sumD (l.take i)) (fun i _ => l.length - i) 0 [] ?_ ?_ ?_
  · exact ⟨Nat.zero_le _, hM, Nat.zero_le _, fun x hx => by cases hx⟩
  · (refine le_of [(9000, 9000)] ?_; repeat' (first | exact trivial | refine an ?_ ?_ | with_reducible rfl | exact bt rfl | exact Or.inl rfl | exact Or.inr rfl | exact Eq.refl _))
  rintro i out ⟨hi, hm, ho, hx⟩
  rcases Nat.lt_or_ge i l.length with hil | hil
  · have hc : decide ((i : Int) < (l.length : Int)) = true := by simp; omega
    have hs := sumD_take hil
    have g1 : 0 ≤ (i : Int) ∧ (i : Int) < (l.length : Int) := by omega
    have hs2 := sumD_le l (i + 1)
    have hone := l14One out rfl (l.getD (i : Int).toNat zeroR) rfl (by omega) (fun x h => by have := hx x h; omega) (by rw [Int.toNat_natCast]; omega)
    rw [List.drop_eq_getElem_cons hil] at hm
    have hge : l[i] = l.getD (i : Int).toNat zeroR := by rw [Int.toNat_natCast, List.getD_eq_getElem?_getD, List.getElem?_eq_getElem hil]; rfl
    rw [hge] at hm
    unfold foldM at hm
    cases h1 : oneM out (l.getD (i : Int).toNat zeroR) with
    | some l' =>
      rw [h1] at hm
      have c1 := hone.1 l' h1
      have hl' := oneM_len h1 ho
      have hd' := oneM_d h1 hx
      repeat' (first | refine o_cons ?_ | refine w_ok rfl ?_ | refine w_call rfl (c1) ?_ | refine o_nil ?_ | refine q_then ?_ | refine sq ?_ | refine aw_seq ?_ | refine aw_reg ?_ | refine w_pT rfl ka rfl ?_ | refine w_pF rfl ka rfl ?_ | refine o_y rfl ka ?_ | refine o_nT rfl ka ?_ | refine o_nF rfl ka ?_ | refine o_nU rfl ?_ | refine aw_cT rfl ka ?_ | refine aw_cF rfl ka ?_ | refine o_gT rfl (fun h => ?_) (fun h => ?_) | refine o_gF rfl (fun h => ?_) (fun h => ?_) | refine aw_cond rfl (fun h => ?_) (fun h => ?_) | refine aw_block ?_ | refine aw_skip ?_ | refine aw_ret ?_ | refine q_ret ?_ | refine q_blockN ?_ | refine q_blockR ?_ | refine aw_exit ?_ | refine q_exit ?_ | refine q_blockE ?_ | refine q_blockX de_ ?_ | refine fin_r rfl ?_ | (refine w_req rfl ?_ ?_; · exact rq_U8) | (refine w_lk rfl ?_; refine ⟨_, lk_U8, ?_⟩) | refine w_look (l' := _ :: _) rfl rfl ?_ | refine w_look (l' := []) rfl rfl ?_ | refine w_req rfl ?_ ?_ | refine w_pick rfl (fun b => ?_))
      refine ⟨i + 1, l', ⟨⟨by omega, hm, hl', fun x h => by have := hd' x h; rw [hs]; rw [Int.toNat_natCast] at this; exact this⟩, by omega⟩, ?_⟩
      (refine le_of [(9000, 22000)] ?_; repeat' (first | exact trivial | refine an ?_ ?_ | with_reducible rfl | exact bt rfl | exact Or.inl rfl | exact Or.inr rfl | exact Eq.refl _))
      all_goals (first | omega | (simp; done) | (rw [wrap64] <;> omega) | (simp; omega))
    | none =>
      rw [h1] at hm
      subst hm
      obtain ⟨t, ht, c1⟩ := hone.2 h1
      rcases ht with rfl | ⟨u, rfl⟩
      · repeat' (first | refine o_cons ?_ | refine w_ok rfl ?_ | refine w_call rfl (c1) ?_ | refine o_nil ?_ | refine q_then ?_ | refine sq ?_ | refine aw_seq ?_ | refine aw_reg ?_ | refine w_pT rfl ka rfl ?_ | refine w_pF rfl ka rfl ?_ | refine o_y rfl ka ?_ | refine o_nT rfl ka ?_ | refine o_nF rfl ka ?_ | refine o_nU rfl ?_ | refine aw_cT rfl ka ?_ | refine aw_cF rfl ka ?_ | refine o_gT rfl (fun h => ?_) (fun h => ?_) | refine o_gF rfl (fun h => ?_) (fun h => ?_) | refine aw_cond rfl (fun h => ?_) (fun h => ?_) | refine aw_block ?_ | refine aw_skip ?_ | refine aw_ret ?_ | refine q_ret ?_ | refine q_blockN ?_ | refine q_blockR ?_ | refine aw_exit ?_ | refine q_exit ?_ | refine q_blockE ?_ | refine q_blockX de_ ?_ | refine fin_r rfl ?_ | (refine w_req rfl ?_ ?_; · exact rq_U8) | (refine w_lk rfl ?_; refine ⟨_, lk_U8, ?_⟩) | refine w_look (l' := _ :: _) rfl rfl ?_ | refine w_look (l' := []) rfl rfl ?_ | refine w_req rfl ?_ ?_ | refine w_pick rfl (fun b => ?_))
        rfl
      · repeat' (first | refine o_cons ?_ | refine w_ok rfl ?_ | refine w_call rfl (c1) ?_ | refine o_nil ?_ | refine q_then ?_ | refine sq ?_ | refine aw_seq ?_ | refine aw_reg ?_ | refine w_pT rfl ka rfl ?_ | refine w_pF rfl ka rfl ?_ | refine o_y rfl ka ?_ | refine o_nT rfl ka ?_ | refine o_nF rfl ka ?_ | refine o_nU rfl ?_ | refine aw_cT rfl ka ?_ | refine aw_cF rfl ka ?_ | refine o_gT rfl (fun h => ?_) (fun h => ?_) | refine o_gF rfl (fun h => ?_) (fun h => ?_) | refine aw_cond rfl (fun h => ?_) (fun h => ?_) | refine aw_block ?_ | refine aw_skip ?_ | refine aw_ret ?_ | refine q_ret ?_ | refine q_blockN ?_ | refine q_blockR ?_ | refine aw_exit ?_ | refine q_exit ?_ | refine q_blockE ?_ | refine q_blockX de_ ?_ | refine fin_r rfl ?_ | (refine w_req rfl ?_ ?_; · exact rq_U8) | (refine w_lk rfl ?_; refine ⟨_, lk_U8, ?_⟩) | refine w_look (l' := _ :: _) rfl rfl ?_ | refine w_look (l' := []) rfl rfl ?_ | refine w_req rfl ?_ ?_ | refine w_pick rfl (fun b => ?_))
        rfl
  · have hc : decide ((i : Int) < (l.length : Int)) = false := by simp; omega
    rw [List.drop_eq_nil_of_le hil] at hm
    unfold foldM at hm
    subst hm
    repeat' (first | refine o_cons ?_ | refine w_ok rfl ?_ | refine o_nil ?_ | refine q_then ?_ | refine sq ?_ | refine aw_seq ?_ | refine aw_reg ?_ | refine w_pT rfl ka rfl ?_ | refine w_pF rfl ka rfl ?_ | refine o_y rfl ka ?_ | refine o_nT rfl ka ?_ | refine o_nF rfl ka ?_ | refine o_nU rfl ?_ | refine aw_cT rfl ka ?_ | refine aw_cF rfl ka ?_ | refine o_gT rfl (fun h => ?_) (fun h => ?_) | refine o_gF rfl (fun h => ?_) (fun h => ?_) | refine aw_cond rfl (fun h => ?_) (fun h => ?_) | refine aw_block ?_ | refine aw_skip ?_ | refine aw_ret ?_ | refine q_ret ?_ | refine q_blockN ?_ | refine q_blockR ?_ | refine aw_exit ?_ | refine q_exit ?_ | refine q_blockE ?_ | refine q_blockX de_ ?_ | refine fin_r rfl ?_ | (refine w_req rfl ?_ ?_; · exact rq_U8) | (refine w_lk rfl ?_; refine ⟨_, lk_U8, ?_⟩) | refine w_look (l' := _ :: _) rfl rfl ?_ | refine w_look (l' := []) rfl rfl ?_ | refine w_req rfl ?_ ?_ | refine w_pick rfl (fun b => ?_))
    all_goals first
      | rfl
      | trace_state
end Go.Proofs.Ytbkpmljdmlhmhaa
