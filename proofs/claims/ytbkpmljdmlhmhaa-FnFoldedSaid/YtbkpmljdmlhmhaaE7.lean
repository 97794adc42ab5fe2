import Derived.Test.YtbkpmljdmlhmhaaE6
namespace Go.Proofs.Ytbkpmljdmlhmhaa
open Go Go.AM Ty
set_option maxRecDepth 100000
set_option maxHeartbeats 4000000
set_option linter.unusedVariables false
set_option linter.unusedSimpArgs false
attribute [local irreducible] aw aops aopsD wpo wpoL condW guardW thenQ blockQ finQ Le AGood
theorem rq_E7 {p : Prop} (h : p := by first | assumption | exact rT_plain _ | exact rq_) : p := h
theorem lk_E7 {p : Prop} (h : p := by first | exact bT_app _ _ | exact rT_el_set side_ | exact rT_el side_ | exact rT_up_set _ rfl side_ | exact rT_up _ rfl side_ | exact rT_hole rfl side_ | exact lk_) : p := h
theorem ok_E7 {p : Prop} (h : p := by first | (simp [Tr.okR, Tr.okRL, Tr.plainL, Tr.plain, cells1, Tr.cellB, PB.okRL, PB.okR, bT_plain, sT_plain, oT_plain, nT_plain, rT_plain]; done) | exact ok_) : p := h
theorem rT_len (l : List Rc) : (rT l).length = l.length * 6 := fl_len rc_sz l
theorem rT_up (l : List Rc) {i a b k n : Int} {s : ByteArray} {c : Nat} {d : List UInt8} (hc : c = d.length) (h : 0 ≤ i ∧ i < (l.length : Int)) : upEl (rT l) 6 i.toNat [.int .i64 a, .int .i64 b, .int .i64 k, .str s, .int .i64 n, .row 1 c (bT d)] = rT (l.set i.toNat ⟨a, b, k, s, n, d⟩) := by
  subst hc; exact upEl_fl rc_sz (by omega) (⟨a, b, k, s, n, d⟩ : Rc)
theorem rT_up_set (l : List Rc) {x : Rc} {i a b k n : Int} {s : ByteArray} {c : Nat} {d : List UInt8} (hc : c = d.length) (h : 0 ≤ i ∧ i < (l.length : Int)) : upEl (rT (l.set i.toNat x)) 6 i.toNat [.int .i64 a, .int .i64 b, .int .i64 k, .str s, .int .i64 n, .row 1 c (bT d)] = rT (l.set i.toNat ⟨a, b, k, s, n, d⟩) := by
  rw [rT_up _ hc (by rw [List.length_set]; exact h), List.set_set]
theorem rT_el_set {l : List Rc} {x : Rc} {i : Int} (h : 0 ≤ i ∧ i < (l.length : Int)) : el (rT (l.set i.toNat x)) 6 i.toNat = x.cells := by
  rw [rT_el (by rw [List.length_set]; exact h), getD_set_same (by omega)]
theorem rT_hole {l : List Rc} {i : Int} {L : List Tr} (hL : L.length = 6) (h : 0 ≤ i ∧ i < (l.length : Int)) : el (upEl (rT l) 6 i.toNat L) 6 i.toNat = L :=
  el_up hL (by rw [rT_len]; exact Nat.mul_le_mul_right _ (by omega))
theorem rT_back {l : List Rc} {x : Rc} {i a b k n : Int} {s : ByteArray} {c : Nat} {d : List UInt8} {L : List Tr} (hL : L.length = 6) (hc : c = d.length) (h : 0 ≤ i ∧ i < (l.length : Int)) : upEl (upEl (rT (l.set i.toNat x)) 6 i.toNat L) 6 i.toNat [.int .i64 a, .int .i64 b, .int .i64 k, .str s, .int .i64 n, .row 1 c (bT d)] = rT (l.set i.toNat ⟨a, b, k, s, n, d⟩) := by
  rw [up_up hL (by rw [rT_len, List.length_set]; exact Nat.mul_le_mul_right _ (by omega))]
  exact rT_up_set l hc h
theorem eqRecS (l : List Rc) {n m : Nat} (hn : n = l.length) (hm : m = l.length) (hl : l.length ≤ 4294967296) (hd : ∀ r ∈ l, r.d.length ≤ 4294967296) : AGood e.P 45 [.ro (.row 6 n (rT l)), .ro (.row 6 m (rT l))] (.bool true) [.keep, .keep] := by
  subst hn; subst hm
  refine agood eok (fn := Try.f45) kr_ de_ rfl kr_ ok_E7 ok_E7 ?_
  repeat' (first | refine o_cons ?_ | refine w_ok rfl ?_ | refine o_nil ?_ | refine q_then ?_ | refine sq ?_ | refine aw_seq ?_ | refine aw_reg ?_ | refine w_pT rfl ka rfl ?_ | refine w_pF rfl ka rfl ?_ | refine o_y rfl ka ?_ | refine o_nT rfl ka ?_ | refine o_nF rfl ka ?_ | refine o_nU rfl ?_ | refine aw_cT rfl ka ?_ | refine aw_cF rfl ka ?_ | refine o_gT rfl (fun h => ?_) (fun h => ?_) | refine o_gF rfl (fun h => ?_) (fun h => ?_) | refine aw_cond rfl (fun h => ?_) (fun h => ?_) | refine aw_block ?_ | refine aw_skip ?_ | refine aw_ret ?_ | refine q_ret ?_ | refine q_blockN ?_ | refine q_blockR ?_ | refine aw_exit ?_ | refine q_exit ?_ | refine q_blockE ?_ | refine q_blockX de_ ?_ | refine fin_r rfl ?_ | (refine w_req rfl ?_ ?_; · exact rq_E7) | (refine w_lk rfl ?_; refine ⟨_, lk_E7, ?_⟩) | refine w_look (l' := _ :: _) rfl rfl ?_ | refine w_look (l' := []) rfl rfl ?_ | refine w_req rfl ?_ ?_ | refine w_pick rfl (fun b => ?_))
  · simp at h
  refine loop1 (fun i : Nat => ⟨tbl [(0, .ro none 6 l.length (rT l)), (1, .ro none 6 l.length (rT l)), (5, .int .i64 i)], mbl [], [.ro (some 0) 6 l.length (rT l), .ro (some 1) 6 l.length (rT l)]⟩) (fun i => i ≤ l.length) (fun i => l.length - i) 0 (Nat.zero_le _) ?_ ?_
  · (refine le_of [] ?_; repeat' (first | exact trivial | refine an ?_ ?_ | with_reducible rfl | exact bt rfl | exact Or.inl rfl | exact Or.inr rfl | exact Eq.refl _))
  intro i hi
  repeat' (first | refine o_cons ?_ | refine w_ok rfl ?_ | refine w_call rfl (eqRec (l.getD (i : Int).toNat zeroR) rfl rfl (getD_all hd side_)) ?_ | refine o_nil ?_ | refine q_then ?_ | refine sq ?_ | refine aw_seq ?_ | refine aw_reg ?_ | refine w_pT rfl ka rfl ?_ | refine w_pF rfl ka rfl ?_ | refine o_y rfl ka ?_ | refine o_nT rfl ka ?_ | refine o_nF rfl ka ?_ | refine o_nU rfl ?_ | refine aw_cT rfl ka ?_ | refine aw_cF rfl ka ?_ | refine o_gT rfl (fun h => ?_) (fun h => ?_) | refine o_gF rfl (fun h => ?_) (fun h => ?_) | refine aw_cond rfl (fun h => ?_) (fun h => ?_) | refine aw_block ?_ | refine aw_skip ?_ | refine aw_ret ?_ | refine q_ret ?_ | refine q_blockN ?_ | refine q_blockR ?_ | refine aw_exit ?_ | refine q_exit ?_ | refine q_blockE ?_ | refine q_blockX de_ ?_ | refine fin_r rfl ?_ | (refine w_req rfl ?_ ?_; · exact rq_E7) | (refine w_lk rfl ?_; refine ⟨_, lk_E7, ?_⟩) | refine w_look (l' := _ :: _) rfl rfl ?_ | refine w_look (l' := []) rfl rfl ?_ | refine w_req rfl ?_ ?_ | refine w_pick rfl (fun b => ?_) | refine l_call rfl (eqRec (l.getD (i : Int).toNat zeroR) rfl rfl (getD_all hd side_)) ?_ | refine aw_drw kr_ ?_ | refine d_cons ?_ | refine l_ok rfl ?_ | refine d_nil kr_ ?_ | refine d_y rfl ka ?_ | refine d_nT rfl ka ?_ | refine d_nF rfl ka ?_ | refine d_nU rfl ?_ | refine l_pT rfl ka rfl ?_ | refine l_pF rfl ka rfl ?_ | refine d_gT rfl (fun h => ?_) (fun h => ?_) | refine d_gF rfl (fun h => ?_) (fun h => ?_) | (refine l_req rfl ?_ ?_; · exact rq_E7) | (refine l_lk rfl ?_; refine ⟨_, lk_E7, ?_⟩) | refine l_look (l' := _ :: _) rfl rfl ?_ | refine l_look (l' := []) rfl rfl ?_ | refine l_req rfl ?_ ?_)
  · refine ⟨i + 1, ⟨by (exact side_), by (exact side_)⟩, ?_⟩
    (refine le_of [] ?_; repeat' (first | exact trivial | refine an ?_ ?_ | with_reducible rfl | exact bt rfl | exact Or.inl rfl | exact Or.inr rfl | exact Eq.refl _))
    first | omega | (simp; done) | (rw [wrap64] <;> omega) | (simp; omega)
  · rfl
abbrev rcM (r : Rc) : Nat := 5 + r.d.length
def mkRc (k : Int) (r : Rc) : Rc := ⟨k, k + 1, k + 2, textM (k + 3), k + 4, markL (k + 5) r.d.length⟩
theorem markRecS (l : List Rc) {n : Nat} (hn : n = l.length) (k : Int) (hk : 0 ≤ k ∧ kAll rcM k l ≤ 1000000000000) (hl : l.length ≤ 1048576) (hd : ∀ r ∈ l, r.d.length ≤ 4294967296) : AGood e.P 47 [.own (.row 6 n (rT l)), .ro (.int .i64 k)] (.int .i64 (kAll rcM k l)) [.own (.row 6 n (rT (mkAll mkRc rcM k l))), .keep] := by
  subst hn
  refine agood eok (fn := Try.f47) kr_ de_ rfl kr_ ok_E7 ok_E7 ?_
  repeat' (first | refine o_cons ?_ | refine w_ok rfl ?_ | refine o_nil ?_ | refine q_then ?_ | refine sq ?_ | refine aw_seq ?_ | refine aw_reg ?_ | refine w_pT rfl ka rfl ?_ | refine w_pF rfl ka rfl ?_ | refine o_y rfl ka ?_ | refine o_nT rfl ka ?_ | refine o_nF rfl ka ?_ | refine o_nU rfl ?_ | refine aw_cT rfl ka ?_ | refine aw_cF rfl ka ?_ | refine o_gT rfl (fun h => ?_) (fun h => ?_) | refine o_gF rfl (fun h => ?_) (fun h => ?_) | refine aw_cond rfl (fun h => ?_) (fun h => ?_) | refine aw_block ?_ | refine aw_skip ?_ | refine aw_ret ?_ | refine q_ret ?_ | refine q_blockN ?_ | refine q_blockR ?_ | refine aw_exit ?_ | refine q_exit ?_ | refine q_blockE ?_ | refine q_blockX de_ ?_ | refine fin_r rfl ?_ | (refine w_req rfl ?_ ?_; · exact rq_E7) | (refine w_lk rfl ?_; refine ⟨_, lk_E7, ?_⟩) | refine w_look (l' := _ :: _) rfl rfl ?_ | refine w_look (l' := []) rfl rfl ?_ | refine w_req rfl ?_ ?_ | refine w_pick rfl (fun b => ?_))
  refine loop1 (fun i : Nat => ⟨tbl [(0, .own 0 0), (1, .int .i64 (kAll rcM k (l.take i))), (5, .int .i64 i)], mbl [(0, .row 0 0 6 l.length (rT (mkAll mkRc rcM k (l.take i) ++ l.drop i)))], [.own 0 0, .int .i64 k]⟩) (fun i => i ≤ l.length) (fun i => l.length - i) 0 (Nat.zero_le _) ?_ ?_
  · (refine le_of [(0, 0)] ?_; repeat' (first | exact trivial | refine an ?_ ?_ | with_reducible rfl | exact bt rfl | exact Or.inl rfl | exact Or.inr rfl | exact Eq.refl _))
    all_goals first | rfl | simp [kAll]
  intro i hi
  have hlen : (mkAll mkRc rcM k (l.take i) ++ l.drop i).length = l.length := by rw [List.length_append, mkAll_len, List.length_take, List.length_drop]; omega
  have hb := kAll_le (m := rcM) (k := k) (l := l) i
  have w1 : IntKind.i64.wrap (kAll rcM k (l.take i) + 1) = kAll rcM k (l.take i) + 1 := wrap64 (by omega) (by omega)
  have hQd : i < l.length → ((mkAll mkRc rcM k (l.take i) ++ l.drop i).getD (i : Int).toNat zeroR).d.length ≤ 4294967296 := fun h => by rw [show (i : Int).toNat = i by omega, mkAll_at h]; exact getD_all hd h
  generalize hQ : mkAll mkRc rcM k (l.take i) ++ l.drop i = Q at hlen hQd ⊢
  generalize hK : kAll rcM k (l.take i) = K at hb w1 ⊢
  have w2 : IntKind.i64.wrap (K + 1 + 1) = K + 2 := (wrap64 (by omega) (by omega)).trans (by omega)
  have w3 : IntKind.i64.wrap (K + 2 + 1) = K + 3 := (wrap64 (by omega) (by omega)).trans (by omega)
  have w4 : IntKind.i64.wrap (K + 3 + 1) = K + 4 := (wrap64 (by omega) (by omega)).trans (by omega)
  have w5 : IntKind.i64.wrap (K + 4 + 1) = K + 5 := (wrap64 (by omega) (by omega)).trans (by omega)
  repeat' (first | refine o_cons ?_ | refine w_ok rfl ?_ | refine w_call rfl (markText _ (by rw [w1, w2, w3]; omega)) ?_ | refine w_call rfl (markByteS (Q.getD (i : Int).toNat zeroR).d rfl _ (by rw [w1, w2, w3, w4, w5]; omega) (hQd side_)) ?_ | refine o_nil ?_ | refine q_then ?_ | refine sq ?_ | refine aw_seq ?_ | refine aw_reg ?_ | refine w_pT rfl ka rfl ?_ | refine w_pF rfl ka rfl ?_ | refine o_y rfl ka ?_ | refine o_nT rfl ka ?_ | refine o_nF rfl ka ?_ | refine o_nU rfl ?_ | refine aw_cT rfl ka ?_ | refine aw_cF rfl ka ?_ | refine o_gT rfl (fun h => ?_) (fun h => ?_) | refine o_gF rfl (fun h => ?_) (fun h => ?_) | refine aw_cond rfl (fun h => ?_) (fun h => ?_) | refine aw_block ?_ | refine aw_skip ?_ | refine aw_ret ?_ | refine q_ret ?_ | refine q_blockN ?_ | refine q_blockR ?_ | refine aw_exit ?_ | refine q_exit ?_ | refine q_blockE ?_ | refine q_blockX de_ ?_ | refine fin_r rfl ?_ | (refine w_req rfl ?_ ?_; · exact rq_E7) | (refine w_lk rfl ?_; refine ⟨_, lk_E7, ?_⟩) | refine w_look (l' := _ :: _) rfl rfl ?_ | refine w_look (l' := []) rfl rfl ?_ | refine w_req rfl ?_ ?_ | refine w_pick rfl (fun b => ?_))
  · have hil : i < l.length := by (exact side_)
    have hat : Q.getD (i : Int).toNat zeroR = l.getD i zeroR := by rw [← hQ]; exact mkAll_at hil
    refine ⟨i + 1, ⟨by omega, by omega⟩, ?_⟩
    (refine le_of [(0, 0)] ?_; repeat' (first | exact trivial | refine an ?_ ?_ | with_reducible rfl | exact bt rfl | exact Or.inl rfl | exact Or.inr rfl | exact Eq.refl _))
    · rw [w1, w2, w3, w4, w5, kAll_succ (z := zeroR) hil, hK, hat]
      simp only [rcM, Int.natCast_add]
      omega
    · first | omega | (simp; done) | (rw [wrap64] <;> omega) | (simp; omega)
    · refine (rT_back rfl (by simp) (by omega)).trans ?_
      rw [w1, w2, w3, w4, w5, hat]
      refine congrArg rT ?_
      rw [← hQ]
      have := mkAll_step (mk := mkRc) (m := rcM) (k := k) (z := zeroR) hil
      rw [hK] at this
      exact this
  · have : i = l.length := by (exact side_)
    subst this
    rw [List.take_length] at hQ hK
    rw [← hQ, ← hK, List.drop_length, List.append_nil]
theorem heldRecS (l : List Rc) {n : Nat} (hn : n = l.length) (k : Int) (hk : 0 ≤ k ∧ kAll rcM k l ≤ 1000000000000) (hl : l.length ≤ 1048576) (hd : ∀ r ∈ l, r.d.length ≤ 4294967296) : AGood e.P 48 [.ro (.row 6 n (rT (mkAll mkRc rcM k l))), .ro (.int .i64 k)] (.int .i64 (kAll rcM k l)) [.keep, .keep] := by
  subst hn
  refine agood eok (fn := Try.f48) kr_ de_ rfl kr_ ok_E7 ok_E7 ?_
  repeat' (first | refine o_cons ?_ | refine w_ok rfl ?_ | refine o_nil ?_ | refine q_then ?_ | refine sq ?_ | refine aw_seq ?_ | refine aw_reg ?_ | refine w_pT rfl ka rfl ?_ | refine w_pF rfl ka rfl ?_ | refine o_y rfl ka ?_ | refine o_nT rfl ka ?_ | refine o_nF rfl ka ?_ | refine o_nU rfl ?_ | refine aw_cT rfl ka ?_ | refine aw_cF rfl ka ?_ | refine o_gT rfl (fun h => ?_) (fun h => ?_) | refine o_gF rfl (fun h => ?_) (fun h => ?_) | refine aw_cond rfl (fun h => ?_) (fun h => ?_) | refine aw_block ?_ | refine aw_skip ?_ | refine aw_ret ?_ | refine q_ret ?_ | refine q_blockN ?_ | refine q_blockR ?_ | refine aw_exit ?_ | refine q_exit ?_ | refine q_blockE ?_ | refine q_blockX de_ ?_ | refine fin_r rfl ?_ | (refine w_req rfl ?_ ?_; · exact rq_E7) | (refine w_lk rfl ?_; refine ⟨_, lk_E7, ?_⟩) | refine w_look (l' := _ :: _) rfl rfl ?_ | refine w_look (l' := []) rfl rfl ?_ | refine w_req rfl ?_ ?_ | refine w_pick rfl (fun b => ?_))
  refine loop1 (fun i : Nat => ⟨tbl [(0, .ro none 6 l.length (rT (mkAll mkRc rcM k l))), (1, .int .i64 (kAll rcM k (l.take i))), (5, .int .i64 i)], mbl [], [.ro (some 0) 6 l.length (rT (mkAll mkRc rcM k l)), .int .i64 k]⟩) (fun i => i ≤ l.length) (fun i => l.length - i) 0 (Nat.zero_le _) ?_ ?_
  · (refine le_of [] ?_; repeat' (first | exact trivial | refine an ?_ ?_ | with_reducible rfl | exact bt rfl | exact Or.inl rfl | exact Or.inr rfl | exact Eq.refl _))
    all_goals first | rfl | simp [kAll]
  intro i hi
  have hlen : (mkAll mkRc rcM k l).length = l.length := mkAll_len _ _
  have hb := kAll_le (m := rcM) (k := k) (l := l) i
  have w1 : IntKind.i64.wrap (kAll rcM k (l.take i) + 1) = kAll rcM k (l.take i) + 1 := wrap64 (by omega) (by omega)
  have hat : i < l.length → (mkAll mkRc rcM k l).getD (i : Int).toNat zeroR = mkRc (kAll rcM k (l.take i)) (l.getD i zeroR) := fun h => mkAll_get h
  have hK2 : i < l.length → kAll rcM k (l.take (i + 1)) = kAll rcM k (l.take i) + rcM (l.getD i zeroR) := fun h => kAll_succ h
  have hdl : i < l.length → (l.getD i zeroR).d.length ≤ 4294967296 := fun h => getD_all hd h
  generalize mkAll mkRc rcM k l = Q at hlen hat ⊢
  generalize hKe : kAll rcM k (l.take i) = K at hb w1 hat hK2 ⊢
  have w2 : IntKind.i64.wrap (K + 1 + 1) = K + 2 := (wrap64 (by omega) (by omega)).trans (by omega)
  have w3 : IntKind.i64.wrap (K + 2 + 1) = K + 3 := (wrap64 (by omega) (by omega)).trans (by omega)
  have w4 : IntKind.i64.wrap (K + 3 + 1) = K + 4 := (wrap64 (by omega) (by omega)).trans (by omega)
  have w5 : IntKind.i64.wrap (K + 4 + 1) = K + 5 := (wrap64 (by omega) (by omega)).trans (by omega)
  rcases Nat.lt_or_ge i l.length with hil | hil
  · have hat := hat hil
    have hc : decide ((i : Int) < (l.length : Int)) = true := by simp; omega
    have f1 : ((Q.getD (i : Int).toNat zeroR).a != K) = false := by rw [hat]; simp [mkRc]
    have f2 : ((Q.getD (i : Int).toNat zeroR).b != IntKind.i64.wrap (K + 1)) = false := by rw [hat, w1]; simp [mkRc]
    have f3 : ((Q.getD (i : Int).toNat zeroR).k != IntKind.i64.wrap (IntKind.i64.wrap (K + 1) + 1)) = false := by rw [hat, w1, w2]; simp [mkRc]
    have f4 : (!((Q.getD (i : Int).toNat zeroR).s.toList == (textM (IntKind.i64.wrap (IntKind.i64.wrap (IntKind.i64.wrap (K + 1) + 1) + 1))).toList)) = false := by rw [hat, w1, w2, w3]; simp [mkRc]
    have f5 : ((Q.getD (i : Int).toNat zeroR).n != IntKind.i64.wrap (IntKind.i64.wrap (IntKind.i64.wrap (IntKind.i64.wrap (K + 1) + 1) + 1) + 1)) = false := by rw [hat, w1, w2, w3, w4]; simp [mkRc]
    have hd1 : (Q.getD (i : Int).toNat zeroR).d = markL (K + 5) (l.getD i zeroR).d.length := by rw [hat]; rfl
    have hd2 : (Q.getD (i : Int).toNat zeroR).d.length = (l.getD i zeroR).d.length := by rw [hd1, markL_len]
    have w6 : IntKind.i64.wrap (IntKind.i64.wrap (IntKind.i64.wrap (IntKind.i64.wrap (IntKind.i64.wrap (K + 1) + 1) + 1) + 1) + 1) = K + 5 := by rw [w1, w2, w3, w4, w5]
    have cB : AGood e.P 81 [.ro (.row 1 (Q.getD (i : Int).toNat zeroR).d.length (bT (Q.getD (i : Int).toNat zeroR).d)), .ro (.int .i64 (IntKind.i64.wrap (IntKind.i64.wrap (IntKind.i64.wrap (IntKind.i64.wrap (IntKind.i64.wrap (K + 1) + 1) + 1) + 1) + 1)))] (.int .i64 (K + 5 + (l.getD i zeroR).d.length)) [.keep, .keep] := by
      rw [w6, hd2, hd1]; exact heldByteS _ _ (by omega) (hdl hil)
    have f6 : decide (K + 5 + ((l.getD i zeroR).d.length : Int) < 0) = false := by simp; omega
    repeat' (first | refine o_cons ?_ | refine w_ok rfl ?_ | refine w_call rfl (markText _ (by rw [w1, w2, w3]; omega)) ?_ | refine w_call rfl (cB) ?_ | refine o_nil ?_ | refine q_then ?_ | refine sq ?_ | refine aw_seq ?_ | refine aw_reg ?_ | refine w_pT rfl ka rfl ?_ | refine w_pF rfl ka rfl ?_ | refine o_y rfl ka ?_ | refine o_nT rfl ka ?_ | refine o_nF rfl ka ?_ | refine o_nU rfl ?_ | refine aw_cT rfl ka ?_ | refine aw_cF rfl ka ?_ | refine o_gT rfl (fun h => ?_) (fun h => ?_) | refine o_gF rfl (fun h => ?_) (fun h => ?_) | refine aw_cond rfl (fun h => ?_) (fun h => ?_) | refine aw_block ?_ | refine aw_skip ?_ | refine aw_ret ?_ | refine q_ret ?_ | refine q_blockN ?_ | refine q_blockR ?_ | refine aw_exit ?_ | refine q_exit ?_ | refine q_blockE ?_ | refine q_blockX de_ ?_ | refine fin_r rfl ?_ | (refine w_req rfl ?_ ?_; · exact rq_E7) | (refine w_lk rfl ?_; refine ⟨_, lk_E7, ?_⟩) | refine w_look (l' := _ :: _) rfl rfl ?_ | refine w_look (l' := []) rfl rfl ?_ | refine w_req rfl ?_ ?_ | refine w_pick rfl (fun b => ?_) | refine l_call rfl (markText _ (by rw [w1, w2, w3]; omega)) ?_ | refine l_call rfl (cB) ?_ | refine aw_drw kr_ ?_ | refine d_cons ?_ | refine l_ok rfl ?_ | refine d_nil kr_ ?_ | refine d_y rfl ka ?_ | refine d_nT rfl ka ?_ | refine d_nF rfl ka ?_ | refine d_nU rfl ?_ | refine l_pT rfl ka rfl ?_ | refine l_pF rfl ka rfl ?_ | refine d_gT rfl (fun h => ?_) (fun h => ?_) | refine d_gF rfl (fun h => ?_) (fun h => ?_) | (refine l_req rfl ?_ ?_; · exact rq_E7) | (refine l_lk rfl ?_; refine ⟨_, lk_E7, ?_⟩) | refine l_look (l' := _ :: _) rfl rfl ?_ | refine l_look (l' := []) rfl rfl ?_ | refine l_req rfl ?_ ?_)
    refine ⟨i + 1, ⟨by omega, by omega⟩, ?_⟩
    (refine le_of [] ?_; repeat' (first | exact trivial | refine an ?_ ?_ | with_reducible rfl | exact bt rfl | exact Or.inl rfl | exact Or.inr rfl | exact Eq.refl _))
    · rw [hK2 hil]; simp only [rcM, Int.natCast_add]; omega
    · first | omega | (simp; done) | (rw [wrap64] <;> omega) | (simp; omega)
  · have hc : decide ((i : Int) < (l.length : Int)) = false := by simp; omega
    repeat' (first | refine o_cons ?_ | refine w_ok rfl ?_ | refine o_nil ?_ | refine q_then ?_ | refine sq ?_ | refine aw_seq ?_ | refine aw_reg ?_ | refine w_pT rfl ka rfl ?_ | refine w_pF rfl ka rfl ?_ | refine o_y rfl ka ?_ | refine o_nT rfl ka ?_ | refine o_nF rfl ka ?_ | refine o_nU rfl ?_ | refine aw_cT rfl ka ?_ | refine aw_cF rfl ka ?_ | refine o_gT rfl (fun h => ?_) (fun h => ?_) | refine o_gF rfl (fun h => ?_) (fun h => ?_) | refine aw_cond rfl (fun h => ?_) (fun h => ?_) | refine aw_block ?_ | refine aw_skip ?_ | refine aw_ret ?_ | refine q_ret ?_ | refine q_blockN ?_ | refine q_blockR ?_ | refine aw_exit ?_ | refine q_exit ?_ | refine q_blockE ?_ | refine q_blockX de_ ?_ | refine fin_r rfl ?_ | (refine w_req rfl ?_ ?_; · exact rq_E7) | (refine w_lk rfl ?_; refine ⟨_, lk_E7, ?_⟩) | refine w_look (l' := _ :: _) rfl rfl ?_ | refine w_look (l' := []) rfl rfl ?_ | refine w_req rfl ?_ ?_ | refine w_pick rfl (fun b => ?_))
    have : i = l.length := by omega
    subst this
    rw [← hKe, List.take_length]
end Go.Proofs.Ytbkpmljdmlhmhaa
