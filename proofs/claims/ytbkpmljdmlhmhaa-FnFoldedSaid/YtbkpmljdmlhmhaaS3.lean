import Derived.Test.YtbkpmljdmlhmhaaS2
namespace Go.Proofs.Ytbkpmljdmlhmhaa
open Go Go.AM Ty
set_option maxRecDepth 100000
set_option maxHeartbeats 4000000
set_option linter.unusedVariables false
set_option linter.unusedSimpArgs false
attribute [local irreducible] aw aops aopsD wpo wpoL condW guardW thenQ blockQ finQ Le AGood
theorem rq_S3 {p : Prop} (h : p := by first | assumption | exact uT_plain _ | exact rT_plain _ | exact sT_plain _ | exact rq_) : p := h
theorem lk_S3 {p : Prop} (h : p := by first | exact bT_app _ _ | exact e1 | exact mp_el (f := Tr.str) emp side_ | exact rT_el side_ | exact uT_el side_ | exact lk_) : p := h
theorem ok_S3 {p : Prop} (h : p := by first | (simp [Tr.okR, Tr.okRL, Tr.plainL, Tr.plain, cells1, Tr.cellB, PB.okRL, PB.okR, bT_plain, sT_plain, oT_plain, nT_plain, uT_plain, rT_plain]; done) | exact ok_) : p := h
attribute [local irreducible] getRecM scanM foldM topM dOk sameUs
def lastA (l : List Rc) : Int := (l.getD (l.length - 1) zeroR).a
/-- a store is right -/
def okTail (s : St) (l : List Rc) (u : List Upp) : Bool := sameUs u s.u && decide (s.n = (l.length : Int)) && !(decide (0 < l.length) && decide (s.e < lastA l)) && decide (topM (s.a.drop l.length) < s.e)
def okM (s : St) : Bool := (decide (0 ≤ s.e) && decide (s.e ≤ 10000)) && dOk s.a s.b && (match foldM [] (scanM s.a) with | none => false | some u => okTail s (scanM s.a) u)
theorem sT_cut (l : List ByteArray) {k m : Nat} (hm : m = l.length - k) : ((sT l).drop (k * 1)).take (m * 1) = sT (l.drop k) := by
  subst hm
  rw [Nat.mul_one, Nat.mul_one]
  unfold sT
  rw [← List.map_drop, List.take_of_length_le (by simp)]
theorem scan_d {a : List ByteArray} : ∀ r ∈ scanM a, r.d.length ≤ 24 := fun r hr => (recOk_nat (scanM_ok hr)).2.2.2.2.2
theorem sumD_24 : ∀ l : List Rc, (∀ r ∈ l, r.d.length ≤ 24) → sumD l ≤ l.length * 24 := by
  intro l
  unfold sumD
  induction l with
  | nil => intro _; simp
  | cons r l ih =>
    intro h
    have h1 := h r (by simp)
    have h2 := ih (fun x hx => h x (by simp [hx]))
    simp only [List.map_cons, List.sum_cons, List.length_cons] at *
    omega
theorem foldM_ok : ∀ (rs : List Rc) {l u : List Upp} {B : Nat}, foldM l rs = some u → l.length ≤ 10 → (∀ x ∈ l, x.d.length ≤ B) → u.length ≤ 10 ∧ ∀ x ∈ u, x.d.length ≤ B + sumD rs
  | [], l, u, B, h, h1, h2 => by
    unfold foldM at h
    injection h with h
    subst h
    exact ⟨h1, fun x hx => Nat.le_trans (h2 x hx) (Nat.le_add_right _ _)⟩
  | r :: rs, l, u, B, h, h1, h2 => by
    unfold foldM at h
    split at h
    · cases h
    · rename_i l' he
      obtain ⟨a, b⟩ := foldM_ok rs h (oneM_len he h1) (oneM_d he h2)
      refine ⟨a, fun x hx => ?_⟩
      have := b x hx
      unfold sumD at this ⊢
      simp only [List.map_cons, List.sum_cons]
      omega
theorem storeOk (s : St) (h : s.sm) : AGood e.P 58 [stR s] (.bool (okM s)) [keep5] := by
  have hu := h.u
  have c1 := isEpoch s.e
  have c2 := diskOk s.a s.b rfl rfl
  have hM : ∃ M, okM s = M := ⟨_, rfl⟩
  obtain ⟨M, hM⟩ := hM
  rw [hM]
  unfold okM at hM
  cases he : (decide (0 ≤ s.e) && decide (s.e ≤ 10000)) with
  | false =>
    rw [he] at c1 hM
    simp only [Bool.false_and] at hM
    subst hM
    refine agood eok (fn := Try.f58) kr_ de_ rfl kr_ ok_S3 ok_S3 ?_
    repeat' (first | refine o_cons ?_ | refine w_ok rfl ?_ | refine w_call rfl (c1) ?_ | refine o_nil ?_ | refine q_then ?_ | refine sq ?_ | refine aw_seq ?_ | refine aw_reg ?_ | refine w_pT rfl ka rfl ?_ | refine w_pF rfl ka rfl ?_ | refine o_y rfl ka ?_ | refine o_nT rfl ka ?_ | refine o_nF rfl ka ?_ | refine o_nU rfl ?_ | refine aw_cT rfl ka ?_ | refine aw_cF rfl ka ?_ | refine o_gT rfl (fun h => ?_) (fun h => ?_) | refine o_gF rfl (fun h => ?_) (fun h => ?_) | refine aw_cond rfl (fun h => ?_) (fun h => ?_) | refine aw_block ?_ | refine aw_skip ?_ | refine aw_ret ?_ | refine q_ret ?_ | refine q_blockN ?_ | refine q_blockR ?_ | refine aw_exit ?_ | refine q_exit ?_ | refine q_blockE ?_ | refine q_blockX de_ ?_ | refine fin_r rfl ?_ | (refine w_req rfl ?_ ?_; · exact rq_S3) | (refine w_lk rfl ?_; refine ⟨_, lk_S3, ?_⟩) | refine w_look (l' := _ :: _) rfl rfl ?_ | refine w_look (l' := []) rfl rfl ?_ | refine w_req rfl ?_ ?_ | refine w_pick rfl (fun b => ?_) | refine l_call rfl (c1) ?_ | refine aw_drw kr_ ?_ | refine d_cons ?_ | refine l_ok rfl ?_ | refine d_nil kr_ ?_ | refine d_y rfl ka ?_ | refine d_nT rfl ka ?_ | refine d_nF rfl ka ?_ | refine d_nU rfl ?_ | refine l_pT rfl ka rfl ?_ | refine l_pF rfl ka rfl ?_ | refine d_gT rfl (fun h => ?_) (fun h => ?_) | refine d_gF rfl (fun h => ?_) (fun h => ?_) | (refine l_req rfl ?_ ?_; · exact rq_S3) | (refine l_lk rfl ?_; refine ⟨_, lk_S3, ?_⟩) | refine l_look (l' := _ :: _) rfl rfl ?_ | refine l_look (l' := []) rfl rfl ?_ | refine l_req rfl ?_ ?_)
    rfl
  | true =>
    rw [he] at c1 hM
    cases hd : dOk s.a s.b with
    | false =>
      rw [hd] at c2 hM
      simp only [Bool.and_false, Bool.false_and] at hM
      subst hM
      refine agood eok (fn := Try.f58) kr_ de_ rfl kr_ ok_S3 ok_S3 ?_
      repeat' (first | refine o_cons ?_ | refine w_ok rfl ?_ | refine w_call rfl (c1) ?_ | refine w_call rfl (c2) ?_ | refine o_nil ?_ | refine q_then ?_ | refine sq ?_ | refine aw_seq ?_ | refine aw_reg ?_ | refine w_pT rfl ka rfl ?_ | refine w_pF rfl ka rfl ?_ | refine o_y rfl ka ?_ | refine o_nT rfl ka ?_ | refine o_nF rfl ka ?_ | refine o_nU rfl ?_ | refine aw_cT rfl ka ?_ | refine aw_cF rfl ka ?_ | refine o_gT rfl (fun h => ?_) (fun h => ?_) | refine o_gF rfl (fun h => ?_) (fun h => ?_) | refine aw_cond rfl (fun h => ?_) (fun h => ?_) | refine aw_block ?_ | refine aw_skip ?_ | refine aw_ret ?_ | refine q_ret ?_ | refine q_blockN ?_ | refine q_blockR ?_ | refine aw_exit ?_ | refine q_exit ?_ | refine q_blockE ?_ | refine q_blockX de_ ?_ | refine fin_r rfl ?_ | (refine w_req rfl ?_ ?_; · exact rq_S3) | (refine w_lk rfl ?_; refine ⟨_, lk_S3, ?_⟩) | refine w_look (l' := _ :: _) rfl rfl ?_ | refine w_look (l' := []) rfl rfl ?_ | refine w_req rfl ?_ ?_ | refine w_pick rfl (fun b => ?_) | refine l_call rfl (c1) ?_ | refine l_call rfl (c2) ?_ | refine aw_drw kr_ ?_ | refine d_cons ?_ | refine l_ok rfl ?_ | refine d_nil kr_ ?_ | refine d_y rfl ka ?_ | refine d_nT rfl ka ?_ | refine d_nF rfl ka ?_ | refine d_nU rfl ?_ | refine l_pT rfl ka rfl ?_ | refine l_pF rfl ka rfl ?_ | refine d_gT rfl (fun h => ?_) (fun h => ?_) | refine d_gF rfl (fun h => ?_) (fun h => ?_) | (refine l_req rfl ?_ ?_; · exact rq_S3) | (refine l_lk rfl ?_; refine ⟨_, lk_S3, ?_⟩) | refine l_look (l' := _ :: _) rfl rfl ?_ | refine l_look (l' := []) rfl rfl ?_ | refine l_req rfl ?_ ?_)
      rfl
    | true =>
      rw [hd] at c2 hM
      obtain ⟨d1, d2, d3, d4⟩ := dOk_sz hd
      have c3 := scan s.a s.b (n := s.b.length) rfl (by omega) (fun x hx => by have := d3 x hx; omega)
      have hsl := scanM_len s.a
      have hsd := scan_d (a := s.a)
      have hsm := sumD_24 _ hsd
      have c4 := foldI (scanM s.a) rfl (by omega) (by omega)
      simp only [Bool.true_and] at hM
      cases hF : foldM [] (scanM s.a) with
      | none =>
        rw [hF] at c4 hM
        have c4 : AGood e.P 52 [.ro (.row 6 (scanM s.a).length (rT (scanM s.a)))] (.tup [.row 4 0 [], .bool false]) [.keep] := c4
        simp only at hM
        subst hM
        refine agood eok (fn := Try.f58) kr_ de_ rfl kr_ ok_S3 ok_S3 ?_
        repeat' (first | refine o_cons ?_ | refine w_ok rfl ?_ | refine w_call rfl (c1) ?_ | refine w_call rfl (c2) ?_ | refine w_call rfl (c3) ?_ | refine w_call rfl (c4) ?_ | refine o_nil ?_ | refine q_then ?_ | refine sq ?_ | refine aw_seq ?_ | refine aw_reg ?_ | refine w_pT rfl ka rfl ?_ | refine w_pF rfl ka rfl ?_ | refine o_y rfl ka ?_ | refine o_nT rfl ka ?_ | refine o_nF rfl ka ?_ | refine o_nU rfl ?_ | refine aw_cT rfl ka ?_ | refine aw_cF rfl ka ?_ | refine o_gT rfl (fun h => ?_) (fun h => ?_) | refine o_gF rfl (fun h => ?_) (fun h => ?_) | refine aw_cond rfl (fun h => ?_) (fun h => ?_) | refine aw_block ?_ | refine aw_skip ?_ | refine aw_ret ?_ | refine q_ret ?_ | refine q_blockN ?_ | refine q_blockR ?_ | refine aw_exit ?_ | refine q_exit ?_ | refine q_blockE ?_ | refine q_blockX de_ ?_ | refine fin_r rfl ?_ | (refine w_req rfl ?_ ?_; · exact rq_S3) | (refine w_lk rfl ?_; refine ⟨_, lk_S3, ?_⟩) | refine w_look (l' := _ :: _) rfl rfl ?_ | refine w_look (l' := []) rfl rfl ?_ | refine w_req rfl ?_ ?_ | refine w_pick rfl (fun b => ?_) | refine l_call rfl (c1) ?_ | refine l_call rfl (c2) ?_ | refine l_call rfl (c3) ?_ | refine l_call rfl (c4) ?_ | refine aw_drw kr_ ?_ | refine d_cons ?_ | refine l_ok rfl ?_ | refine d_nil kr_ ?_ | refine d_y rfl ka ?_ | refine d_nT rfl ka ?_ | refine d_nF rfl ka ?_ | refine d_nU rfl ?_ | refine l_pT rfl ka rfl ?_ | refine l_pF rfl ka rfl ?_ | refine d_gT rfl (fun h => ?_) (fun h => ?_) | refine d_gF rfl (fun h => ?_) (fun h => ?_) | (refine l_req rfl ?_ ?_; · exact rq_S3) | (refine l_lk rfl ?_; refine ⟨_, lk_S3, ?_⟩) | refine l_look (l' := _ :: _) rfl rfl ?_ | refine l_look (l' := []) rfl rfl ?_ | refine l_req rfl ?_ ?_)
        rfl
      | some u =>
        rw [hF] at c4 hM
        have c4 : AGood e.P 52 [.ro (.row 6 (scanM s.a).length (rT (scanM s.a)))] (.tup [.row 4 u.length (uT u), .bool true]) [.keep] := c4
        obtain ⟨hul, _⟩ := foldM_ok _ (B := 0) hF (Nat.zero_le _) (fun x hx => by cases hx)
        have c5 := equalFunc u s.u rfl rfl (by omega) hu
        simp only at hM
        unfold okTail at hM
        generalize scanM s.a = L at *
        by_cases hn : s.n = (L.length : Int)
        · have k1 : (s.n != (L.length : Int)) = false := by simpa using hn
          rw [decide_eq_true hn, Bool.and_true] at hM
          cases hs : sameUs u s.u with
          | false =>
            rw [hs] at c5 hM
            simp only [Bool.false_and] at hM
            subst hM
            refine agood eok (fn := Try.f58) kr_ de_ rfl kr_ ok_S3 ok_S3 ?_
            repeat' (first | refine o_cons ?_ | refine w_ok rfl ?_ | refine w_call rfl (c1) ?_ | refine w_call rfl (c2) ?_ | refine w_call rfl (c3) ?_ | refine w_call rfl (c4) ?_ | refine w_call rfl (c5) ?_ | refine o_nil ?_ | refine q_then ?_ | refine sq ?_ | refine aw_seq ?_ | refine aw_reg ?_ | refine w_pT rfl ka rfl ?_ | refine w_pF rfl ka rfl ?_ | refine o_y rfl ka ?_ | refine o_nT rfl ka ?_ | refine o_nF rfl ka ?_ | refine o_nU rfl ?_ | refine aw_cT rfl ka ?_ | refine aw_cF rfl ka ?_ | refine o_gT rfl (fun h => ?_) (fun h => ?_) | refine o_gF rfl (fun h => ?_) (fun h => ?_) | refine aw_cond rfl (fun h => ?_) (fun h => ?_) | refine aw_block ?_ | refine aw_skip ?_ | refine aw_ret ?_ | refine q_ret ?_ | refine q_blockN ?_ | refine q_blockR ?_ | refine aw_exit ?_ | refine q_exit ?_ | refine q_blockE ?_ | refine q_blockX de_ ?_ | refine fin_r rfl ?_ | (refine w_req rfl ?_ ?_; · exact rq_S3) | (refine w_lk rfl ?_; refine ⟨_, lk_S3, ?_⟩) | refine w_look (l' := _ :: _) rfl rfl ?_ | refine w_look (l' := []) rfl rfl ?_ | refine w_req rfl ?_ ?_ | refine w_pick rfl (fun b => ?_) | refine l_call rfl (c1) ?_ | refine l_call rfl (c2) ?_ | refine l_call rfl (c3) ?_ | refine l_call rfl (c4) ?_ | refine l_call rfl (c5) ?_ | refine aw_drw kr_ ?_ | refine d_cons ?_ | refine l_ok rfl ?_ | refine d_nil kr_ ?_ | refine d_y rfl ka ?_ | refine d_nT rfl ka ?_ | refine d_nF rfl ka ?_ | refine d_nU rfl ?_ | refine l_pT rfl ka rfl ?_ | refine l_pF rfl ka rfl ?_ | refine d_gT rfl (fun h => ?_) (fun h => ?_) | refine d_gF rfl (fun h => ?_) (fun h => ?_) | (refine l_req rfl ?_ ?_; · exact rq_S3) | (refine l_lk rfl ?_; refine ⟨_, lk_S3, ?_⟩) | refine l_look (l' := _ :: _) rfl rfl ?_ | refine l_look (l' := []) rfl rfl ?_ | refine l_req rfl ?_ ?_)
            rfl
          | true =>
            rw [hs] at c5 hM
            simp only [Bool.true_and] at hM
            have hnn : s.n.toNat = L.length := by omega
            have g3 : 0 ≤ s.n ∧ s.n ≤ (s.a.length : Int) ∧ (s.a.length : Int) ≤ (s.a.length : Int) := by omega
            have e1 : ((sT s.a).drop (s.n.toNat * 1)).take (((s.a.length : Int).toNat - s.n.toNat) * 1) = sT (s.a.drop L.length) := by
              rw [hnn]; exact sT_cut _ (by omega)
            have c6 := topFrom (s.a.drop L.length) (n := (s.a.length : Int).toNat - s.n.toNat) (by rw [hnn, List.length_drop]; omega) (by rw [List.length_drop]; omega) (fun x hx => by have := d3 x (List.mem_of_mem_drop hx); omega)
            by_cases h0 : 0 < L.length
            · have k2 : decide ((L.length : Int) > 0) = true := decide_eq_true (by omega)
              have w1 : IntKind.i64.wrap ((L.length : Int) - 1) = ((L.length - 1 : Nat) : Int) := by rw [wrap64 (by omega) (by omega)]; omega
              have g1 : 0 ≤ IntKind.i64.wrap ((L.length : Int) - 1) ∧ IntKind.i64.wrap ((L.length : Int) - 1) < (L.length : Int) := by rw [w1]; omega
              have hla : (L.getD (IntKind.i64.wrap ((L.length : Int) - 1)).toNat zeroR).a = lastA L := by rw [w1, Int.toNat_natCast]; rfl
              by_cases hq : s.e < lastA L
              · have k3 : decide (s.e < (L.getD (IntKind.i64.wrap ((L.length : Int) - 1)).toNat zeroR).a) = true := by rw [hla]; exact decide_eq_true hq
                rw [decide_eq_true h0, decide_eq_true hq] at hM
                simp only [Bool.and_true, Bool.not_true, Bool.false_and] at hM
                subst hM
                refine agood eok (fn := Try.f58) kr_ de_ rfl kr_ ok_S3 ok_S3 ?_
                repeat' (first | refine o_cons ?_ | refine w_ok rfl ?_ | refine w_call rfl (c1) ?_ | refine w_call rfl (c2) ?_ | refine w_call rfl (c3) ?_ | refine w_call rfl (c4) ?_ | refine w_call rfl (c5) ?_ | refine o_nil ?_ | refine q_then ?_ | refine sq ?_ | refine aw_seq ?_ | refine aw_reg ?_ | refine w_pT rfl ka rfl ?_ | refine w_pF rfl ka rfl ?_ | refine o_y rfl ka ?_ | refine o_nT rfl ka ?_ | refine o_nF rfl ka ?_ | refine o_nU rfl ?_ | refine aw_cT rfl ka ?_ | refine aw_cF rfl ka ?_ | refine o_gT rfl (fun h => ?_) (fun h => ?_) | refine o_gF rfl (fun h => ?_) (fun h => ?_) | refine aw_cond rfl (fun h => ?_) (fun h => ?_) | refine aw_block ?_ | refine aw_skip ?_ | refine aw_ret ?_ | refine q_ret ?_ | refine q_blockN ?_ | refine q_blockR ?_ | refine aw_exit ?_ | refine q_exit ?_ | refine q_blockE ?_ | refine q_blockX de_ ?_ | refine fin_r rfl ?_ | (refine w_req rfl ?_ ?_; · exact rq_S3) | (refine w_lk rfl ?_; refine ⟨_, lk_S3, ?_⟩) | refine w_look (l' := _ :: _) rfl rfl ?_ | refine w_look (l' := []) rfl rfl ?_ | refine w_req rfl ?_ ?_ | refine w_pick rfl (fun b => ?_) | refine l_call rfl (c1) ?_ | refine l_call rfl (c2) ?_ | refine l_call rfl (c3) ?_ | refine l_call rfl (c4) ?_ | refine l_call rfl (c5) ?_ | refine aw_drw kr_ ?_ | refine d_cons ?_ | refine l_ok rfl ?_ | refine d_nil kr_ ?_ | refine d_y rfl ka ?_ | refine d_nT rfl ka ?_ | refine d_nF rfl ka ?_ | refine d_nU rfl ?_ | refine l_pT rfl ka rfl ?_ | refine l_pF rfl ka rfl ?_ | refine d_gT rfl (fun h => ?_) (fun h => ?_) | refine d_gF rfl (fun h => ?_) (fun h => ?_) | (refine l_req rfl ?_ ?_; · exact rq_S3) | (refine l_lk rfl ?_; refine ⟨_, lk_S3, ?_⟩) | refine l_look (l' := _ :: _) rfl rfl ?_ | refine l_look (l' := []) rfl rfl ?_ | refine l_req rfl ?_ ?_)
                rfl
              · have k3 : decide (s.e < (L.getD (IntKind.i64.wrap ((L.length : Int) - 1)).toNat zeroR).a) = false := by rw [hla]; exact decide_eq_false hq
                rw [decide_eq_true h0, decide_eq_false hq] at hM
                simp only [Bool.and_false, Bool.not_false, Bool.true_and] at hM
                subst hM
                refine agood eok (fn := Try.f58) kr_ de_ rfl kr_ ok_S3 ok_S3 ?_
                repeat' (first | refine o_cons ?_ | refine w_ok rfl ?_ | refine w_call rfl (c1) ?_ | refine w_call rfl (c2) ?_ | refine w_call rfl (c3) ?_ | refine w_call rfl (c4) ?_ | refine w_call rfl (c5) ?_ | refine w_call rfl (c6) ?_ | refine o_nil ?_ | refine q_then ?_ | refine sq ?_ | refine aw_seq ?_ | refine aw_reg ?_ | refine w_pT rfl ka rfl ?_ | refine w_pF rfl ka rfl ?_ | refine o_y rfl ka ?_ | refine o_nT rfl ka ?_ | refine o_nF rfl ka ?_ | refine o_nU rfl ?_ | refine aw_cT rfl ka ?_ | refine aw_cF rfl ka ?_ | refine o_gT rfl (fun h => ?_) (fun h => ?_) | refine o_gF rfl (fun h => ?_) (fun h => ?_) | refine aw_cond rfl (fun h => ?_) (fun h => ?_) | refine aw_block ?_ | refine aw_skip ?_ | refine aw_ret ?_ | refine q_ret ?_ | refine q_blockN ?_ | refine q_blockR ?_ | refine aw_exit ?_ | refine q_exit ?_ | refine q_blockE ?_ | refine q_blockX de_ ?_ | refine fin_r rfl ?_ | (refine w_req rfl ?_ ?_; · exact rq_S3) | (refine w_lk rfl ?_; refine ⟨_, lk_S3, ?_⟩) | refine w_look (l' := _ :: _) rfl rfl ?_ | refine w_look (l' := []) rfl rfl ?_ | refine w_req rfl ?_ ?_ | refine w_pick rfl (fun b => ?_) | refine l_call rfl (c1) ?_ | refine l_call rfl (c2) ?_ | refine l_call rfl (c3) ?_ | refine l_call rfl (c4) ?_ | refine l_call rfl (c5) ?_ | refine l_call rfl (c6) ?_ | refine aw_drw kr_ ?_ | refine d_cons ?_ | refine l_ok rfl ?_ | refine d_nil kr_ ?_ | refine d_y rfl ka ?_ | refine d_nT rfl ka ?_ | refine d_nF rfl ka ?_ | refine d_nU rfl ?_ | refine l_pT rfl ka rfl ?_ | refine l_pF rfl ka rfl ?_ | refine d_gT rfl (fun h => ?_) (fun h => ?_) | refine d_gF rfl (fun h => ?_) (fun h => ?_) | (refine l_req rfl ?_ ?_; · exact rq_S3) | (refine l_lk rfl ?_; refine ⟨_, lk_S3, ?_⟩) | refine l_look (l' := _ :: _) rfl rfl ?_ | refine l_look (l' := []) rfl rfl ?_ | refine l_req rfl ?_ ?_)
                rfl
            · have k2 : decide ((L.length : Int) > 0) = false := decide_eq_false (by omega)
              rw [decide_eq_false h0] at hM
              simp only [Bool.false_and, Bool.not_false, Bool.true_and] at hM
              subst hM
              refine agood eok (fn := Try.f58) kr_ de_ rfl kr_ ok_S3 ok_S3 ?_
              repeat' (first | refine o_cons ?_ | refine w_ok rfl ?_ | refine w_call rfl (c1) ?_ | refine w_call rfl (c2) ?_ | refine w_call rfl (c3) ?_ | refine w_call rfl (c4) ?_ | refine w_call rfl (c5) ?_ | refine w_call rfl (c6) ?_ | refine o_nil ?_ | refine q_then ?_ | refine sq ?_ | refine aw_seq ?_ | refine aw_reg ?_ | refine w_pT rfl ka rfl ?_ | refine w_pF rfl ka rfl ?_ | refine o_y rfl ka ?_ | refine o_nT rfl ka ?_ | refine o_nF rfl ka ?_ | refine o_nU rfl ?_ | refine aw_cT rfl ka ?_ | refine aw_cF rfl ka ?_ | refine o_gT rfl (fun h => ?_) (fun h => ?_) | refine o_gF rfl (fun h => ?_) (fun h => ?_) | refine aw_cond rfl (fun h => ?_) (fun h => ?_) | refine aw_block ?_ | refine aw_skip ?_ | refine aw_ret ?_ | refine q_ret ?_ | refine q_blockN ?_ | refine q_blockR ?_ | refine aw_exit ?_ | refine q_exit ?_ | refine q_blockE ?_ | refine q_blockX de_ ?_ | refine fin_r rfl ?_ | (refine w_req rfl ?_ ?_; · exact rq_S3) | (refine w_lk rfl ?_; refine ⟨_, lk_S3, ?_⟩) | refine w_look (l' := _ :: _) rfl rfl ?_ | refine w_look (l' := []) rfl rfl ?_ | refine w_req rfl ?_ ?_ | refine w_pick rfl (fun b => ?_) | refine l_call rfl (c1) ?_ | refine l_call rfl (c2) ?_ | refine l_call rfl (c3) ?_ | refine l_call rfl (c4) ?_ | refine l_call rfl (c5) ?_ | refine l_call rfl (c6) ?_ | refine aw_drw kr_ ?_ | refine d_cons ?_ | refine l_ok rfl ?_ | refine d_nil kr_ ?_ | refine d_y rfl ka ?_ | refine d_nT rfl ka ?_ | refine d_nF rfl ka ?_ | refine d_nU rfl ?_ | refine l_pT rfl ka rfl ?_ | refine l_pF rfl ka rfl ?_ | refine d_gT rfl (fun h => ?_) (fun h => ?_) | refine d_gF rfl (fun h => ?_) (fun h => ?_) | (refine l_req rfl ?_ ?_; · exact rq_S3) | (refine l_lk rfl ?_; refine ⟨_, lk_S3, ?_⟩) | refine l_look (l' := _ :: _) rfl rfl ?_ | refine l_look (l' := []) rfl rfl ?_ | refine l_req rfl ?_ ?_)
              rfl
        · have k1 : (s.n != (L.length : Int)) = true := by simpa using hn
          rw [decide_eq_false hn] at hM
          simp only [Bool.and_false, Bool.false_and] at hM
          subst hM
          refine agood eok (fn := Try.f58) kr_ de_ rfl kr_ ok_S3 ok_S3 ?_
          repeat' (first | refine o_cons ?_ | refine w_ok rfl ?_ | refine w_call rfl (c1) ?_ | refine w_call rfl (c2) ?_ | refine w_call rfl (c3) ?_ | refine w_call rfl (c4) ?_ | refine o_nil ?_ | refine q_then ?_ | refine sq ?_ | refine aw_seq ?_ | refine aw_reg ?_ | refine w_pT rfl ka rfl ?_ | refine w_pF rfl ka rfl ?_ | refine o_y rfl ka ?_ | refine o_nT rfl ka ?_ | refine o_nF rfl ka ?_ | refine o_nU rfl ?_ | refine aw_cT rfl ka ?_ | refine aw_cF rfl ka ?_ | refine o_gT rfl (fun h => ?_) (fun h => ?_) | refine o_gF rfl (fun h => ?_) (fun h => ?_) | refine aw_cond rfl (fun h => ?_) (fun h => ?_) | refine aw_block ?_ | refine aw_skip ?_ | refine aw_ret ?_ | refine q_ret ?_ | refine q_blockN ?_ | refine q_blockR ?_ | refine aw_exit ?_ | refine q_exit ?_ | refine q_blockE ?_ | refine q_blockX de_ ?_ | refine fin_r rfl ?_ | (refine w_req rfl ?_ ?_; · exact rq_S3) | (refine w_lk rfl ?_; refine ⟨_, lk_S3, ?_⟩) | refine w_look (l' := _ :: _) rfl rfl ?_ | refine w_look (l' := []) rfl rfl ?_ | refine w_req rfl ?_ ?_ | refine w_pick rfl (fun b => ?_) | refine l_call rfl (c1) ?_ | refine l_call rfl (c2) ?_ | refine l_call rfl (c3) ?_ | refine l_call rfl (c4) ?_ | refine aw_drw kr_ ?_ | refine d_cons ?_ | refine l_ok rfl ?_ | refine d_nil kr_ ?_ | refine d_y rfl ka ?_ | refine d_nT rfl ka ?_ | refine d_nF rfl ka ?_ | refine d_nU rfl ?_ | refine l_pT rfl ka rfl ?_ | refine l_pF rfl ka rfl ?_ | refine d_gT rfl (fun h => ?_) (fun h => ?_) | refine d_gF rfl (fun h => ?_) (fun h => ?_) | (refine l_req rfl ?_ ?_; · exact rq_S3) | (refine l_lk rfl ?_; refine ⟨_, lk_S3, ?_⟩) | refine l_look (l' := _ :: _) rfl rfl ?_ | refine l_look (l' := []) rfl rfl ?_ | refine l_req rfl ?_ ?_)
          rfl
end Go.Proofs.Ytbkpmljdmlhmhaa
