import Derived.Test.YtbkpmljdmlhmhaaU5
namespace Go.Proofs.Ytbkpmljdmlhmhaa
open Go Go.AM Ty
set_option maxRecDepth 100000
set_option maxHeartbeats 4000000
set_option linter.unusedVariables false
set_option linter.unusedSimpArgs false
attribute [local irreducible] aw aops aopsD wpo wpoL condW guardW thenQ blockQ finQ Le AGood
theorem rq_U6 {p : Prop} (h : p := by first | assumption | exact uT_plain _ | exact rq_) : p := h
theorem lk_U6 {p : Prop} (h : p := by first | exact bT_app _ _ | exact e1 | exact e2 | exact e3 | exact e4 | exact e5 | exact e6 | exact uT_el side_ | exact uT_snoc0 _ _ _ _ | exact uT_snoc _ rfl | exact uT_snoc _ (Nat.zero_add _) | exact lk_) : p := h
theorem ok_U6 {p : Prop} (h : p := by first | (simp [Tr.okR, Tr.okRL, Tr.plainL, Tr.plain, cells1, Tr.cellB, PB.okRL, PB.okR, bT_plain, sT_plain, oT_plain, nT_plain, uT_plain]; done) | exact ok_) : p := h
theorem uT_snoc0 (l : List Upp) (s : ByteArray) (w : Int) (f : Bool) : uT l ++ [.str s, .int .i64 w, .row 1 0 [], .bool f] = uT (l ++ [⟨s, w, [], f⟩]) := uT_snoc l (c := 0) (d := []) rfl
theorem copyUps (l : List Upp) {n : Nat} (hn : n = l.length) (hl : l.length ≤ 1048576) (hd : ∀ x ∈ l, x.d.length ≤ 1048576) : AGood e.P 130 [.ro (.row 4 n (uT l))] (.row 4 n (uT l)) [.keep] := by
  subst hn
  refine agood eok (fn := Try.f130) kr_ de_ rfl kr_ ok_U6 ok_U6 ?_
  repeat' (first | refine o_cons ?_ | refine w_ok rfl ?_ | refine o_nil ?_ | refine q_then ?_ | refine sq ?_ | refine aw_seq ?_ | refine aw_reg ?_ | refine w_pT rfl ka rfl ?_ | refine w_pF rfl ka rfl ?_ | refine o_y rfl ka ?_ | refine o_nT rfl ka ?_ | refine o_nF rfl ka ?_ | refine o_nU rfl ?_ | refine aw_cT rfl ka ?_ | refine aw_cF rfl ka ?_ | refine o_gT rfl (fun h => ?_) (fun h => ?_) | refine o_gF rfl (fun h => ?_) (fun h => ?_) | refine aw_cond rfl (fun h => ?_) (fun h => ?_) | refine aw_block ?_ | refine aw_skip ?_ | refine aw_ret ?_ | refine q_ret ?_ | refine q_blockN ?_ | refine q_blockR ?_ | refine aw_exit ?_ | refine q_exit ?_ | refine q_blockE ?_ | refine q_blockX de_ ?_ | refine fin_r rfl ?_ | (refine w_req rfl ?_ ?_; · exact rq_U6) | (refine w_lk rfl ?_; refine ⟨_, lk_U6, ?_⟩) | refine w_look (l' := _ :: _) rfl rfl ?_ | refine w_look (l' := []) rfl rfl ?_ | refine w_req rfl ?_ ?_ | refine w_pick rfl (fun b => ?_))
  refine loop1 (fun i : Nat => ⟨tbl [(0, .ro none 4 l.length (uT l)), (3, .own 7000 0), (4, .int .i64 i)], mbl [(7000, .row 0 0 4 i (uT (l.take i)))], [.ro (some 0) 4 l.length (uT l)]⟩) (fun i => i ≤ l.length) (fun i => l.length - i) 0 (Nat.zero_le _) ?_ ?_
  · (refine le_of [(7000, 7000)] ?_; repeat' (first | exact trivial | refine an ?_ ?_ | with_reducible rfl | exact bt rfl | exact Or.inl rfl | exact Or.inr rfl | exact Eq.refl _))
  intro i hi
  rcases Nat.lt_or_ge i l.length with hil | hil
  · have hc : decide ((i : Int) < (l.length : Int)) = true := by simp; omega
    have hdi := getD_all hd hil (z := zeroU)
    have q1 : (0 + (l.getD (i : Int).toNat zeroU).d.length) * 1 ≤ 140737488355328 ∧ 0 + (l.getD (i : Int).toNat zeroU).d.length ≤ 140737488355328 := by
      rw [Int.toNat_natCast]; omega
    have q2 : (i + 1) * 56 ≤ 140737488355328 ∧ i + 1 ≤ 140737488355328 := by omega
    repeat' (first | refine o_cons ?_ | refine w_ok rfl ?_ | refine o_nil ?_ | refine q_then ?_ | refine sq ?_ | refine aw_seq ?_ | refine aw_reg ?_ | refine w_pT rfl ka rfl ?_ | refine w_pF rfl ka rfl ?_ | refine o_y rfl ka ?_ | refine o_nT rfl ka ?_ | refine o_nF rfl ka ?_ | refine o_nU rfl ?_ | refine aw_cT rfl ka ?_ | refine aw_cF rfl ka ?_ | refine o_gT rfl (fun h => ?_) (fun h => ?_) | refine o_gF rfl (fun h => ?_) (fun h => ?_) | refine aw_cond rfl (fun h => ?_) (fun h => ?_) | refine aw_block ?_ | refine aw_skip ?_ | refine aw_ret ?_ | refine q_ret ?_ | refine q_blockN ?_ | refine q_blockR ?_ | refine aw_exit ?_ | refine q_exit ?_ | refine q_blockE ?_ | refine q_blockX de_ ?_ | refine fin_r rfl ?_ | (refine w_req rfl ?_ ?_; · exact rq_U6) | (refine w_lk rfl ?_; refine ⟨_, lk_U6, ?_⟩) | refine w_look (l' := _ :: _) rfl rfl ?_ | refine w_look (l' := []) rfl rfl ?_ | refine w_req rfl ?_ ?_ | refine w_pick rfl (fun b => ?_))
    refine ⟨i + 1, ⟨by omega, by omega⟩, ?_⟩
    (refine le_of [(7000, 7000)] ?_; repeat' (first | exact trivial | refine an ?_ ?_ | with_reducible rfl | exact bt rfl | exact Or.inl rfl | exact Or.inr rfl | exact Eq.refl _))
    all_goals first | exact congrArg uT (take_succ_getD hil).symm | (first | omega | (simp; done) | (rw [wrap64] <;> omega) | (simp; omega))
  · have hc : decide ((i : Int) < (l.length : Int)) = false := by simp; omega
    repeat' (first | refine o_cons ?_ | refine w_ok rfl ?_ | refine o_nil ?_ | refine q_then ?_ | refine sq ?_ | refine aw_seq ?_ | refine aw_reg ?_ | refine w_pT rfl ka rfl ?_ | refine w_pF rfl ka rfl ?_ | refine o_y rfl ka ?_ | refine o_nT rfl ka ?_ | refine o_nF rfl ka ?_ | refine o_nU rfl ?_ | refine aw_cT rfl ka ?_ | refine aw_cF rfl ka ?_ | refine o_gT rfl (fun h => ?_) (fun h => ?_) | refine o_gF rfl (fun h => ?_) (fun h => ?_) | refine aw_cond rfl (fun h => ?_) (fun h => ?_) | refine aw_block ?_ | refine aw_skip ?_ | refine aw_ret ?_ | refine q_ret ?_ | refine q_blockN ?_ | refine q_blockR ?_ | refine aw_exit ?_ | refine q_exit ?_ | refine q_blockE ?_ | refine q_blockX de_ ?_ | refine fin_r rfl ?_ | (refine w_req rfl ?_ ?_; · exact rq_U6) | (refine w_lk rfl ?_; refine ⟨_, lk_U6, ?_⟩) | refine w_look (l' := _ :: _) rfl rfl ?_ | refine w_look (l' := []) rfl rfl ?_ | refine w_req rfl ?_ ?_ | refine w_pick rfl (fun b => ?_))
    have : i = l.length := by omega
    subst this
    rw [List.take_length]
/-- where an upload goes, sought from behind -/
def insK (l : List Upp) (id : ByteArray) : Nat → Nat
  | 0 => 0
  | k + 1 => if !(Op.bytesLess (l.getD k zeroU).s.toList id.toList || (l.getD k zeroU).s.toList == id.toList) then insK l id k else k + 1
def makeM (l : List Upp) (u : Upp) : List Upp := l.take (insK l u.s l.length) ++ u :: l.drop (insK l u.s l.length)
theorem makeM_len (l : List Upp) (u : Upp) : (makeM l u).length = l.length + 1 := by
  unfold makeM
  rw [List.length_append, List.length_cons, ← Nat.add_assoc, ← List.length_append, List.take_append_drop]
abbrev T4 := Tr × Tr × Tr × Tr
abbrev T4.l (p : T4) : List Tr := [p.1, p.2.1, p.2.2.1, p.2.2.2]
theorem mid_el (l : List Upp) (L : List Tr) (hL : L.length = 4) {k : Nat} (hk : k ≤ l.length) : el (uT (l.take k) ++ L ++ uT (l.drop k)) 4 k = L := by
  unfold el
  rw [List.append_assoc, List.drop_left' (by rw [uT_len, List.length_take]; omega), List.take_left' hL]
theorem mid_up (l : List Upp) (L : List Tr) (hL : L.length = 4) {k : Nat} (hk : k ≤ l.length) (M : List Tr) : upEl (uT (l.take k) ++ L ++ uT (l.drop k)) 4 k M = uT (l.take k) ++ M ++ uT (l.drop k) := by
  unfold upEl
  have e : (uT (l.take k)).length = k * 4 := by rw [uT_len, List.length_take]; omega
  rw [List.append_assoc (uT (l.take k)), List.take_left' e, ← List.drop_drop, List.drop_left' e, List.drop_left' hL]
theorem mid_back (l : List Upp) (L : List Tr) (hL : L.length = 4) {k : Nat} (hk : k < l.length) : uT (l.take (k + 1)) ++ L ++ uT (l.drop (k + 1)) = uT (l.take k) ++ (l.getD k zeroU).cells ++ (L ++ uT (l.drop (k + 1))) := by
  rw [take_succ_getD (z := zeroU) hk]
  simp [uT, List.flatMap_append]
theorem mid_el1 (l : List Upp) (L : List Tr) (hL : L.length = 4) {k : Nat} (hk : k < l.length) : el (uT (l.take (k + 1)) ++ L ++ uT (l.drop (k + 1))) 4 k = (l.getD k zeroU).cells := by
  rw [mid_back l L hL hk]
  unfold el
  rw [List.append_assoc, List.drop_left' (by rw [uT_len, List.length_take]; omega), List.take_left' (up_sz _)]
theorem mid_up1 (l : List Upp) (L M : List Tr) (hL : L.length = 4) (hM : M.length = 4) {k : Nat} (hk : k < l.length) : upEl (uT (l.take (k + 1)) ++ L ++ uT (l.drop (k + 1))) 4 k M = uT (l.take k) ++ M ++ (L ++ uT (l.drop (k + 1))) := by
  rw [mid_back l L hL hk]
  unfold upEl
  have e : (uT (l.take k)).length = k * 4 := by rw [uT_len, List.length_take]; omega
  rw [List.append_assoc (uT (l.take k)), List.take_left' e, ← List.drop_drop, List.drop_left' e, List.drop_left' (up_sz _)]
theorem mid_el2 (l : List Upp) (L M : List Tr) (hL : L.length = 4) (hM : M.length = 4) {k : Nat} (hk : k < l.length) : el (upEl (uT (l.take (k + 1)) ++ L ++ uT (l.drop (k + 1))) 4 k M) 4 (k + 1) = L := by
  rw [mid_up1 l L M hL hM hk]
  unfold el
  rw [← List.append_assoc, List.append_assoc (uT (l.take k) ++ M), List.drop_left' (by rw [List.length_append, uT_len, List.length_take, hM]; omega), List.take_left' hL]
theorem mid_up2 (l : List Upp) (L M : List Tr) (hL : L.length = 4) (hM : M.length = 4) {k : Nat} (hk : k < l.length) : upEl (upEl (uT (l.take (k + 1)) ++ L ++ uT (l.drop (k + 1))) 4 k M) 4 (k + 1) (l.getD k zeroU).cells = uT (l.take k) ++ M ++ uT (l.drop k) := by
  rw [mid_up1 l L M hL hM hk]
  unfold upEl
  have e : (uT (l.take k) ++ M).length = (k + 1) * 4 := by rw [List.length_append, uT_len, List.length_take, hM]; omega
  rw [List.take_left' e, ← List.drop_drop, List.drop_left' e, List.drop_left' hL, List.append_assoc (uT (l.take k) ++ M)]
  congr 1
  rw [List.drop_eq_getElem_cons hk, List.getD_eq_getElem?_getD, List.getElem?_eq_getElem hk]
  rfl
theorem l14Make (l : List Upp) {n : Nat} (hn : n = l.length) (u : Upp) (hu : u.d = []) (hl : l.length ≤ 1048576) (hd : ∀ x ∈ l, x.d.length ≤ 1048576) : AGood e.P 129 [.ro (.row 4 n (uT l)), .agg [.ro (.str u.s), .ro (.int .i64 u.w), .nils, .ro (.bool u.f)]] (.row 4 (n + 1) (uT (makeM l u))) [.keep, keep4] := by
  subst hn
  obtain ⟨us, uw, ud, uf⟩ := u
  simp only at hu
  subst hu
  have q0 : (l.length + 1) * 56 ≤ 140737488355328 ∧ l.length + 1 ≤ 140737488355328 := by omega
  refine agood eok (fn := Try.f129) kr_ de_ rfl kr_ ok_U6 ok_U6 ?_
  repeat' (first | refine o_cons ?_ | refine w_ok rfl ?_ | refine w_call rfl (copyUps l rfl hl hd) ?_ | refine o_nil ?_ | refine q_then ?_ | refine sq ?_ | refine aw_seq ?_ | refine aw_reg ?_ | refine w_pT rfl ka rfl ?_ | refine w_pF rfl ka rfl ?_ | refine o_y rfl ka ?_ | refine o_nT rfl ka ?_ | refine o_nF rfl ka ?_ | refine o_nU rfl ?_ | refine aw_cT rfl ka ?_ | refine aw_cF rfl ka ?_ | refine o_gT rfl (fun h => ?_) (fun h => ?_) | refine o_gF rfl (fun h => ?_) (fun h => ?_) | refine aw_cond rfl (fun h => ?_) (fun h => ?_) | refine aw_block ?_ | refine aw_skip ?_ | refine aw_ret ?_ | refine q_ret ?_ | refine q_blockN ?_ | refine q_blockR ?_ | refine aw_exit ?_ | refine q_exit ?_ | refine q_blockE ?_ | refine q_blockX de_ ?_ | refine fin_r rfl ?_ | (refine w_req rfl ?_ ?_; · exact rq_U6) | (refine w_lk rfl ?_; refine ⟨_, lk_U6, ?_⟩) | refine w_look (l' := _ :: _) rfl rfl ?_ | refine w_look (l' := []) rfl rfl ?_ | refine w_req rfl ?_ ?_ | refine w_pick rfl (fun b => ?_) | refine l_call rfl (copyUps l rfl hl hd) ?_ | refine aw_drw kr_ ?_ | refine d_cons ?_ | refine l_ok rfl ?_ | refine d_nil kr_ ?_ | refine d_y rfl ka ?_ | refine d_nT rfl ka ?_ | refine d_nF rfl ka ?_ | refine d_nU rfl ?_ | refine l_pT rfl ka rfl ?_ | refine l_pF rfl ka rfl ?_ | refine d_gT rfl (fun h => ?_) (fun h => ?_) | refine d_gF rfl (fun h => ?_) (fun h => ?_) | (refine l_req rfl ?_ ?_; · exact rq_U6) | (refine l_lk rfl ?_; refine ⟨_, lk_U6, ?_⟩) | refine l_look (l' := _ :: _) rfl rfl ?_ | refine l_look (l' := []) rfl rfl ?_ | refine l_req rfl ?_ ?_)
  refine loop2 (fun (k : Nat) (p : T4) => ⟨tbl [(3, .ptr 4000 0 0 0), (5, .own 9000 0), (6, .int .i64 k)], mbl [(4000, .box 0 51 [.str us, .int .i64 uw, .nils, .bool uf]), (9000, .row 0 0 4 (l.length + 1) (uT (l.take k) ++ p.l ++ uT (l.drop k)))], [.ro (some 0) 4 l.length (uT l), .agg [.str us, .int .i64 uw, .nils, .bool uf]]⟩) (fun k _ => k ≤ l.length ∧ insK l us k = insK l us l.length) (fun k _ => k) l.length (.str us, .int .i64 uw, .row 1 0 [], .bool uf) ?_ ?_ ?_
  · exact ⟨Nat.le_refl _, rfl⟩
  · (refine le_of [(4000, 4000), (9000, 9000)] ?_; repeat' (first | exact trivial | refine an ?_ ?_ | with_reducible rfl | exact bt rfl | exact Or.inl rfl | exact Or.inr rfl | exact Eq.refl _))
    all_goals first | (rw [wrap64] <;> omega) | (simp [uT, T4.l, List.flatMap_append]; done)
  rintro k p ⟨hk, hi⟩
  obtain ⟨p1, p2, p3, p4⟩ := p
  have hL : (T4.l (p1, p2, p3, p4)).length = 4 := rfl
  rcases k with _ | k
  · have hc : decide (((0 : Nat) : Int) > 0) = false := by decide
    have e1 : el (uT (l.take 0) ++ T4.l (p1, p2, p3, p4) ++ uT (l.drop 0)) 4 (((0 : Nat) : Int)).toNat = T4.l (p1, p2, p3, p4) := mid_el l _ hL (Nat.zero_le _)
    have e2 : upEl (uT (l.take 0) ++ T4.l (p1, p2, p3, p4) ++ uT (l.drop 0)) 4 (((0 : Nat) : Int)).toNat [.str us, .int .i64 uw, .row 1 0 [], .bool uf] = uT (makeM l ⟨us, uw, [], uf⟩) := by
      refine (mid_up l _ hL (Nat.zero_le _) _).trans ?_
      unfold makeM
      simp only
      rw [← hi]
      simp [insK, uT]
    repeat' (first | refine o_cons ?_ | refine w_ok rfl ?_ | refine o_nil ?_ | refine q_then ?_ | refine sq ?_ | refine aw_seq ?_ | refine aw_reg ?_ | refine w_pT rfl ka rfl ?_ | refine w_pF rfl ka rfl ?_ | refine o_y rfl ka ?_ | refine o_nT rfl ka ?_ | refine o_nF rfl ka ?_ | refine o_nU rfl ?_ | refine aw_cT rfl ka ?_ | refine aw_cF rfl ka ?_ | refine o_gT rfl (fun h => ?_) (fun h => ?_) | refine o_gF rfl (fun h => ?_) (fun h => ?_) | refine aw_cond rfl (fun h => ?_) (fun h => ?_) | refine aw_block ?_ | refine aw_skip ?_ | refine aw_ret ?_ | refine q_ret ?_ | refine q_blockN ?_ | refine q_blockR ?_ | refine aw_exit ?_ | refine q_exit ?_ | refine q_blockE ?_ | refine q_blockX de_ ?_ | refine fin_r rfl ?_ | (refine w_req rfl ?_ ?_; · exact rq_U6) | (refine w_lk rfl ?_; refine ⟨_, lk_U6, ?_⟩) | refine w_look (l' := _ :: _) rfl rfl ?_ | refine w_look (l' := []) rfl rfl ?_ | refine w_req rfl ?_ ?_ | refine w_pick rfl (fun b => ?_) | refine aw_drw kr_ ?_ | refine d_cons ?_ | refine l_ok rfl ?_ | refine d_nil kr_ ?_ | refine d_y rfl ka ?_ | refine d_nT rfl ka ?_ | refine d_nF rfl ka ?_ | refine d_nU rfl ?_ | refine l_pT rfl ka rfl ?_ | refine l_pF rfl ka rfl ?_ | refine d_gT rfl (fun h => ?_) (fun h => ?_) | refine d_gF rfl (fun h => ?_) (fun h => ?_) | (refine l_req rfl ?_ ?_; · exact rq_U6) | (refine l_lk rfl ?_; refine ⟨_, lk_U6, ?_⟩) | refine l_look (l' := _ :: _) rfl rfl ?_ | refine l_look (l' := []) rfl rfl ?_ | refine l_req rfl ?_ ?_)
    exact congrArg (fun n => (Tr.row 4 n (uT (makeM l ⟨us, uw, [], uf⟩)), [PB.keep, keep4])) rfl
  · have hkl : k < l.length := by omega
    have hc : decide (((k + 1 : Nat) : Int) > 0) = true := decide_eq_true (by omega)
    have w1 : IntKind.i64.wrap (((k + 1 : Nat) : Int) - 1) = (k : Int) := by rw [wrap64 (by omega) (by omega)]; omega
    have n1 : (IntKind.i64.wrap (((k + 1 : Nat) : Int) - 1)).toNat = k := by rw [w1]; rfl
    have g1 : 0 ≤ IntKind.i64.wrap (((k + 1 : Nat) : Int) - 1) ∧ IntKind.i64.wrap (((k + 1 : Nat) : Int) - 1) < ((l.length + 1 : Nat) : Int) := by rw [w1]; omega
    have g2 : 0 ≤ ((k + 1 : Nat) : Int) ∧ ((k + 1 : Nat) : Int) < ((l.length + 1 : Nat) : Int) := by omega
    have e1 : el (uT (l.take (k + 1)) ++ T4.l (p1, p2, p3, p4) ++ uT (l.drop (k + 1))) 4 (IntKind.i64.wrap (((k + 1 : Nat) : Int) - 1)).toNat = (l.getD k zeroU).cells := by rw [n1]; exact mid_el1 l _ hL hkl
    have e3 : el (uT (l.take (k + 1)) ++ T4.l (p1, p2, p3, p4) ++ uT (l.drop (k + 1))) 4 (((k + 1 : Nat) : Int)).toNat = T4.l (p1, p2, p3, p4) := mid_el l _ hL hk
    cases hb : (!(Op.bytesLess (l.getD k zeroU).s.toList us.toList || (l.getD k zeroU).s.toList == us.toList)) with
    | false =>
      have e4 : upEl (uT (l.take (k + 1)) ++ T4.l (p1, p2, p3, p4) ++ uT (l.drop (k + 1))) 4 (((k + 1 : Nat) : Int)).toNat [.str us, .int .i64 uw, .row 1 0 [], .bool uf] = uT (makeM l ⟨us, uw, [], uf⟩) := by
        refine (mid_up l _ hL hk _).trans ?_
        unfold makeM
        simp only
        rw [← hi]
        have : insK l us (k + 1) = k + 1 := by
          show (if _ then _ else _) = _
          rw [hb]; rfl
        rw [this]
        simp [uT, List.flatMap_append]
      repeat' (first | refine o_cons ?_ | refine w_ok rfl ?_ | refine o_nil ?_ | refine q_then ?_ | refine sq ?_ | refine aw_seq ?_ | refine aw_reg ?_ | refine w_pT rfl ka rfl ?_ | refine w_pF rfl ka rfl ?_ | refine o_y rfl ka ?_ | refine o_nT rfl ka ?_ | refine o_nF rfl ka ?_ | refine o_nU rfl ?_ | refine aw_cT rfl ka ?_ | refine aw_cF rfl ka ?_ | refine o_gT rfl (fun h => ?_) (fun h => ?_) | refine o_gF rfl (fun h => ?_) (fun h => ?_) | refine aw_cond rfl (fun h => ?_) (fun h => ?_) | refine aw_block ?_ | refine aw_skip ?_ | refine aw_ret ?_ | refine q_ret ?_ | refine q_blockN ?_ | refine q_blockR ?_ | refine aw_exit ?_ | refine q_exit ?_ | refine q_blockE ?_ | refine q_blockX de_ ?_ | refine fin_r rfl ?_ | (refine w_req rfl ?_ ?_; · exact rq_U6) | (refine w_lk rfl ?_; refine ⟨_, lk_U6, ?_⟩) | refine w_look (l' := _ :: _) rfl rfl ?_ | refine w_look (l' := []) rfl rfl ?_ | refine w_req rfl ?_ ?_ | refine w_pick rfl (fun b => ?_) | refine aw_drw kr_ ?_ | refine d_cons ?_ | refine l_ok rfl ?_ | refine d_nil kr_ ?_ | refine d_y rfl ka ?_ | refine d_nT rfl ka ?_ | refine d_nF rfl ka ?_ | refine d_nU rfl ?_ | refine l_pT rfl ka rfl ?_ | refine l_pF rfl ka rfl ?_ | refine d_gT rfl (fun h => ?_) (fun h => ?_) | refine d_gF rfl (fun h => ?_) (fun h => ?_) | (refine l_req rfl ?_ ?_; · exact rq_U6) | (refine l_lk rfl ?_; refine ⟨_, lk_U6, ?_⟩) | refine l_look (l' := _ :: _) rfl rfl ?_ | refine l_look (l' := []) rfl rfl ?_ | refine l_req rfl ?_ ?_)
      rfl
    | true =>
      have e5 : el (upEl (uT (l.take (k + 1)) ++ T4.l (p1, p2, p3, p4) ++ uT (l.drop (k + 1))) 4 (IntKind.i64.wrap (((k + 1 : Nat) : Int) - 1)).toNat [.str (l.getD k zeroU).s, .int .i64 (l.getD k zeroU).w, .hole, .bool (l.getD k zeroU).f]) 4 (((k + 1 : Nat) : Int)).toNat = T4.l (p1, p2, p3, p4) := by rw [n1]; exact mid_el2 l _ _ hL rfl hkl
      have e6 : upEl (upEl (uT (l.take (k + 1)) ++ T4.l (p1, p2, p3, p4) ++ uT (l.drop (k + 1))) 4 (IntKind.i64.wrap (((k + 1 : Nat) : Int) - 1)).toNat [.str (l.getD k zeroU).s, .int .i64 (l.getD k zeroU).w, .hole, .bool (l.getD k zeroU).f]) 4 (((k + 1 : Nat) : Int)).toNat (l.getD k zeroU).cells = uT (l.take k) ++ [.str (l.getD k zeroU).s, .int .i64 (l.getD k zeroU).w, .hole, .bool (l.getD k zeroU).f] ++ uT (l.drop k) := by rw [n1]; exact mid_up2 l _ _ hL rfl hkl
      repeat' (first | refine o_cons ?_ | refine w_ok rfl ?_ | refine o_nil ?_ | refine q_then ?_ | refine sq ?_ | refine aw_seq ?_ | refine aw_reg ?_ | refine w_pT rfl ka rfl ?_ | refine w_pF rfl ka rfl ?_ | refine o_y rfl ka ?_ | refine o_nT rfl ka ?_ | refine o_nF rfl ka ?_ | refine o_nU rfl ?_ | refine aw_cT rfl ka ?_ | refine aw_cF rfl ka ?_ | refine o_gT rfl (fun h => ?_) (fun h => ?_) | refine o_gF rfl (fun h => ?_) (fun h => ?_) | refine aw_cond rfl (fun h => ?_) (fun h => ?_) | refine aw_block ?_ | refine aw_skip ?_ | refine aw_ret ?_ | refine q_ret ?_ | refine q_blockN ?_ | refine q_blockR ?_ | refine aw_exit ?_ | refine q_exit ?_ | refine q_blockE ?_ | refine q_blockX de_ ?_ | refine fin_r rfl ?_ | (refine w_req rfl ?_ ?_; · exact rq_U6) | (refine w_lk rfl ?_; refine ⟨_, lk_U6, ?_⟩) | refine w_look (l' := _ :: _) rfl rfl ?_ | refine w_look (l' := []) rfl rfl ?_ | refine w_req rfl ?_ ?_ | refine w_pick rfl (fun b => ?_) | refine aw_drw kr_ ?_ | refine d_cons ?_ | refine l_ok rfl ?_ | refine d_nil kr_ ?_ | refine d_y rfl ka ?_ | refine d_nT rfl ka ?_ | refine d_nF rfl ka ?_ | refine d_nU rfl ?_ | refine l_pT rfl ka rfl ?_ | refine l_pF rfl ka rfl ?_ | refine d_gT rfl (fun h => ?_) (fun h => ?_) | refine d_gF rfl (fun h => ?_) (fun h => ?_) | (refine l_req rfl ?_ ?_; · exact rq_U6) | (refine l_lk rfl ?_; refine ⟨_, lk_U6, ?_⟩) | refine l_look (l' := _ :: _) rfl rfl ?_ | refine l_look (l' := []) rfl rfl ?_ | refine l_req rfl ?_ ?_)
      have hi2 : insK l us (k + 1) = insK l us k := by
        show (if _ then _ else _) = _
        rw [hb]; rfl
      refine ⟨k, (.str (l.getD k zeroU).s, .int .i64 (l.getD k zeroU).w, .hole, .bool (l.getD k zeroU).f), ⟨⟨by omega, hi2 ▸ hi⟩, by omega⟩, ?_⟩
      (refine le_of [(4000, 4000), (9000, 9000)] ?_; repeat' (first | exact trivial | refine an ?_ ?_ | with_reducible rfl | exact bt rfl | exact Or.inl rfl | exact Or.inr rfl | exact Eq.refl _))
      exact w1
end Go.Proofs.Ytbkpmljdmlhmhaa
