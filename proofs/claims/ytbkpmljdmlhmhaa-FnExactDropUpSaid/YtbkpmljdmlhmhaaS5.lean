import Derived.Test.YtbkpmljdmlhmhaaS4
namespace Go.Proofs.Ytbkpmljdmlhmhaa
open Go Go.AM Ty
set_option maxRecDepth 100000
set_option maxHeartbeats 4000000
set_option linter.unusedVariables false
set_option linter.unusedSimpArgs false
attribute [local irreducible] aw aops aopsD wpo wpoL condW guardW thenQ blockQ finQ Le AGood
theorem rq_S5 {p : Prop} (h : p := by first | assumption | exact uT_plain _ | exact rT_plain _ | exact sT_plain _ | exact rq_) : p := h
theorem ok_S5 {p : Prop} (h : p := by first | exact openT_ok _ | (simp [Tr.okR, Tr.okRL, Tr.plainL, Tr.plain, cells1, Tr.cellB, PB.okRL, PB.okR, bT_plain, sT_plain, oT_plain, nT_plain, uT_plain, rT_plain]; done) | exact ok_) : p := h
attribute [local irreducible] getRecM scanM foldM topM dOk sameUs okM
/-- the store behind a flush, where it is right -/
def syncM (s : St) : St := if okM s then ⟨s.a, s.a, s.e, s.n, s.u⟩ else s
theorem syncI (s : St) (h : s.sm) : AGood e.P 63 [stR s] (stT (syncM s)) [keep5] := by
  have c1 := copyStore s h
  have c2 := storeOk s h
  have c3 := flushI s.a s.b rfl rfl h.a
  unfold syncM
  cases hk : okM s with
  | true =>
    rw [hk] at c2
    refine agood eok (fn := Try.f63) kr_ de_ rfl kr_ ok_S5 ok_S5 ?_
    repeat' (first | refine o_cons ?_ | refine w_ok rfl ?_ | refine w_call rfl (c1) ?_ | refine w_call rfl (c2) ?_ | refine w_call rfl (c3) ?_ | refine o_nil ?_ | refine q_then ?_ | refine sq ?_ | refine aw_seq ?_ | refine aw_reg ?_ | refine w_pT rfl ka rfl ?_ | refine w_pF rfl ka rfl ?_ | refine o_y rfl ka ?_ | refine o_nT rfl ka ?_ | refine o_nF rfl ka ?_ | refine o_nU rfl ?_ | refine aw_cT rfl ka ?_ | refine aw_cF rfl ka ?_ | refine o_gT rfl (fun h => ?_) (fun h => ?_) | refine o_gF rfl (fun h => ?_) (fun h => ?_) | refine aw_cond rfl (fun h => ?_) (fun h => ?_) | refine aw_block ?_ | refine aw_skip ?_ | refine aw_ret ?_ | refine q_ret ?_ | refine q_blockN ?_ | refine q_blockR ?_ | refine aw_exit ?_ | refine q_exit ?_ | refine q_blockE ?_ | refine q_blockX de_ ?_ | refine fin_r rfl ?_ | (refine w_req rfl ?_ ?_; · exact rq_S5) | (refine w_lk rfl ?_; refine ⟨_, lk_, ?_⟩) | refine w_look (l' := _ :: _) rfl rfl ?_ | refine w_look (l' := []) rfl rfl ?_ | refine w_req rfl ?_ ?_ | refine w_pick rfl (fun b => ?_) | refine l_call rfl (c1) ?_ | refine l_call rfl (c2) ?_ | refine l_call rfl (c3) ?_ | refine aw_drw kr_ ?_ | refine d_cons ?_ | refine l_ok rfl ?_ | refine d_nil kr_ ?_ | refine d_y rfl ka ?_ | refine d_nT rfl ka ?_ | refine d_nF rfl ka ?_ | refine d_nU rfl ?_ | refine l_pT rfl ka rfl ?_ | refine l_pF rfl ka rfl ?_ | refine d_gT rfl (fun h => ?_) (fun h => ?_) | refine d_gF rfl (fun h => ?_) (fun h => ?_) | (refine l_req rfl ?_ ?_; · exact rq_S5) | (refine l_lk rfl ?_; refine ⟨_, lk_, ?_⟩) | refine l_look (l' := _ :: _) rfl rfl ?_ | refine l_look (l' := []) rfl rfl ?_ | refine l_req rfl ?_ ?_)
    rfl
  | false =>
    rw [hk] at c2
    refine agood eok (fn := Try.f63) kr_ de_ rfl kr_ ok_S5 ok_S5 ?_
    repeat' (first | refine o_cons ?_ | refine w_ok rfl ?_ | refine w_call rfl (c1) ?_ | refine w_call rfl (c2) ?_ | refine w_call rfl (c3) ?_ | refine o_nil ?_ | refine q_then ?_ | refine sq ?_ | refine aw_seq ?_ | refine aw_reg ?_ | refine w_pT rfl ka rfl ?_ | refine w_pF rfl ka rfl ?_ | refine o_y rfl ka ?_ | refine o_nT rfl ka ?_ | refine o_nF rfl ka ?_ | refine o_nU rfl ?_ | refine aw_cT rfl ka ?_ | refine aw_cF rfl ka ?_ | refine o_gT rfl (fun h => ?_) (fun h => ?_) | refine o_gF rfl (fun h => ?_) (fun h => ?_) | refine aw_cond rfl (fun h => ?_) (fun h => ?_) | refine aw_block ?_ | refine aw_skip ?_ | refine aw_ret ?_ | refine q_ret ?_ | refine q_blockN ?_ | refine q_blockR ?_ | refine aw_exit ?_ | refine q_exit ?_ | refine q_blockE ?_ | refine q_blockX de_ ?_ | refine fin_r rfl ?_ | (refine w_req rfl ?_ ?_; · exact rq_S5) | (refine w_lk rfl ?_; refine ⟨_, lk_, ?_⟩) | refine w_look (l' := _ :: _) rfl rfl ?_ | refine w_look (l' := []) rfl rfl ?_ | refine w_req rfl ?_ ?_ | refine w_pick rfl (fun b => ?_) | refine l_call rfl (c1) ?_ | refine l_call rfl (c2) ?_ | refine l_call rfl (c3) ?_ | refine aw_drw kr_ ?_ | refine d_cons ?_ | refine l_ok rfl ?_ | refine d_nil kr_ ?_ | refine d_y rfl ka ?_ | refine d_nT rfl ka ?_ | refine d_nF rfl ka ?_ | refine d_nU rfl ?_ | refine l_pT rfl ka rfl ?_ | refine l_pF rfl ka rfl ?_ | refine d_gT rfl (fun h => ?_) (fun h => ?_) | refine d_gF rfl (fun h => ?_) (fun h => ?_) | (refine l_req rfl ?_ ?_; · exact rq_S5) | (refine l_lk rfl ?_; refine ⟨_, lk_, ?_⟩) | refine l_look (l' := _ :: _) rfl rfl ?_ | refine l_look (l' := []) rfl rfl ?_ | refine l_req rfl ?_ ?_)
    rfl
theorem syncS (s : St) (h : s.sm) : AGood e.P 62 [stR s] (stT (syncM s)) [keep5] := by
  have c1 := copyStoreS s h
  have c2 := storeOkS s h
  have c3 := flushS s.a s.b rfl rfl h.a
  unfold syncM
  cases hk : okM s with
  | true =>
    rw [hk] at c2
    refine agood eok (fn := Try.f62) kr_ de_ rfl kr_ ok_S5 ok_S5 ?_
    repeat' (first | refine o_cons ?_ | refine w_ok rfl ?_ | refine w_call rfl (c1) ?_ | refine w_call rfl (c2) ?_ | refine w_call rfl (c3) ?_ | refine o_nil ?_ | refine q_then ?_ | refine sq ?_ | refine aw_seq ?_ | refine aw_reg ?_ | refine w_pT rfl ka rfl ?_ | refine w_pF rfl ka rfl ?_ | refine o_y rfl ka ?_ | refine o_nT rfl ka ?_ | refine o_nF rfl ka ?_ | refine o_nU rfl ?_ | refine aw_cT rfl ka ?_ | refine aw_cF rfl ka ?_ | refine o_gT rfl (fun h => ?_) (fun h => ?_) | refine o_gF rfl (fun h => ?_) (fun h => ?_) | refine aw_cond rfl (fun h => ?_) (fun h => ?_) | refine aw_block ?_ | refine aw_skip ?_ | refine aw_ret ?_ | refine q_ret ?_ | refine q_blockN ?_ | refine q_blockR ?_ | refine aw_exit ?_ | refine q_exit ?_ | refine q_blockE ?_ | refine q_blockX de_ ?_ | refine fin_r rfl ?_ | (refine w_req rfl ?_ ?_; · exact rq_S5) | (refine w_lk rfl ?_; refine ⟨_, lk_, ?_⟩) | refine w_look (l' := _ :: _) rfl rfl ?_ | refine w_look (l' := []) rfl rfl ?_ | refine w_req rfl ?_ ?_ | refine w_pick rfl (fun b => ?_) | refine l_call rfl (c1) ?_ | refine l_call rfl (c2) ?_ | refine l_call rfl (c3) ?_ | refine aw_drw kr_ ?_ | refine d_cons ?_ | refine l_ok rfl ?_ | refine d_nil kr_ ?_ | refine d_y rfl ka ?_ | refine d_nT rfl ka ?_ | refine d_nF rfl ka ?_ | refine d_nU rfl ?_ | refine l_pT rfl ka rfl ?_ | refine l_pF rfl ka rfl ?_ | refine d_gT rfl (fun h => ?_) (fun h => ?_) | refine d_gF rfl (fun h => ?_) (fun h => ?_) | (refine l_req rfl ?_ ?_; · exact rq_S5) | (refine l_lk rfl ?_; refine ⟨_, lk_, ?_⟩) | refine l_look (l' := _ :: _) rfl rfl ?_ | refine l_look (l' := []) rfl rfl ?_ | refine l_req rfl ?_ ?_)
    rfl
  | false =>
    rw [hk] at c2
    refine agood eok (fn := Try.f62) kr_ de_ rfl kr_ ok_S5 ok_S5 ?_
    repeat' (first | refine o_cons ?_ | refine w_ok rfl ?_ | refine w_call rfl (c1) ?_ | refine w_call rfl (c2) ?_ | refine w_call rfl (c3) ?_ | refine o_nil ?_ | refine q_then ?_ | refine sq ?_ | refine aw_seq ?_ | refine aw_reg ?_ | refine w_pT rfl ka rfl ?_ | refine w_pF rfl ka rfl ?_ | refine o_y rfl ka ?_ | refine o_nT rfl ka ?_ | refine o_nF rfl ka ?_ | refine o_nU rfl ?_ | refine aw_cT rfl ka ?_ | refine aw_cF rfl ka ?_ | refine o_gT rfl (fun h => ?_) (fun h => ?_) | refine o_gF rfl (fun h => ?_) (fun h => ?_) | refine aw_cond rfl (fun h => ?_) (fun h => ?_) | refine aw_block ?_ | refine aw_skip ?_ | refine aw_ret ?_ | refine q_ret ?_ | refine q_blockN ?_ | refine q_blockR ?_ | refine aw_exit ?_ | refine q_exit ?_ | refine q_blockE ?_ | refine q_blockX de_ ?_ | refine fin_r rfl ?_ | (refine w_req rfl ?_ ?_; · exact rq_S5) | (refine w_lk rfl ?_; refine ⟨_, lk_, ?_⟩) | refine w_look (l' := _ :: _) rfl rfl ?_ | refine w_look (l' := []) rfl rfl ?_ | refine w_req rfl ?_ ?_ | refine w_pick rfl (fun b => ?_) | refine l_call rfl (c1) ?_ | refine l_call rfl (c2) ?_ | refine l_call rfl (c3) ?_ | refine aw_drw kr_ ?_ | refine d_cons ?_ | refine l_ok rfl ?_ | refine d_nil kr_ ?_ | refine d_y rfl ka ?_ | refine d_nT rfl ka ?_ | refine d_nF rfl ka ?_ | refine d_nU rfl ?_ | refine l_pT rfl ka rfl ?_ | refine l_pF rfl ka rfl ?_ | refine d_gT rfl (fun h => ?_) (fun h => ?_) | refine d_gF rfl (fun h => ?_) (fun h => ?_) | (refine l_req rfl ?_ ?_; · exact rq_S5) | (refine l_lk rfl ?_; refine ⟨_, lk_, ?_⟩) | refine l_look (l' := _ :: _) rfl rfl ?_ | refine l_look (l' := []) rfl rfl ?_ | refine l_req rfl ?_ ?_)
    rfl
theorem top_range (l : List ByteArray) : -1 ≤ topM l ∧ topM l ≤ 10000 := by
  unfold topM
  have : ∀ (l : List ByteArray) (t : Int), (-1 ≤ t ∧ t ≤ 10000) → -1 ≤ l.foldl topStep t ∧ l.foldl topStep t ≤ 10000 := by
    intro l
    induction l with
    | nil => intro t h; exact h
    | cons s l ih =>
      intro t h
      rw [List.foldl_cons]
      refine ih _ ?_
      unfold topStep
      split
      · rename_i hc
        simp only [Bool.and_eq_true, decide_eq_true_eq] at hc
        obtain ⟨hc, h2⟩ := hc
        cases hg : getRecM s with
        | none => rw [hg] at hc; cases hc
        | some r =>
          have h3 := (recOk_nat (getRecM_ok hg).1).1
          unfold gR at h2 ⊢
          rw [hg] at h2 ⊢
          simp only [Option.getD_some] at h2 ⊢
          omega
      · exact h
  exact this l (-1) (by omega)
/-- a store that is opened -/
def openM (a b : List ByteArray) : Option St := if dOk a b then (match foldM [] (scanM a) with | none => none | some u => if 10000 < topM a + 1 then none else some ⟨a, b, topM a + 1, (scanM a).length, u⟩) else none
def zeroSt : St := ⟨[], [], 0, 0, []⟩
def openT (o : Option St) : Tr := .tup [stT (o.getD zeroSt), .bool o.isSome]
theorem openT_ok (o : Option St) : (openT o).okR := by simp [openT, Tr.okR, Tr.okRL, Tr.plainL, Tr.plain, cells1, Tr.cellB, sT_plain, uT_plain]
theorem openI (a b : List ByteArray) {m n : Nat} (hm : m = a.length) (hn : n = b.length) : AGood e.P 60 [dkR a b m n] (openT (openM a b)) [keep2] := by
  subst hm; subst hn
  have c2 := diskOk a b rfl rfl
  have hM : ∃ M, openM a b = M := ⟨_, rfl⟩
  obtain ⟨M, hM⟩ := hM
  rw [hM]
  unfold openM at hM
  cases hd : dOk a b with
  | false =>
    rw [hd] at c2
    rw [hd, if_neg Bool.false_ne_true] at hM
    subst hM
    refine agood eok (fn := Try.f60) kr_ de_ rfl kr_ ok_S5 ok_S5 ?_
    repeat' (first | refine o_cons ?_ | refine w_ok rfl ?_ | refine w_call rfl (c2) ?_ | refine o_nil ?_ | refine q_then ?_ | refine sq ?_ | refine aw_seq ?_ | refine aw_reg ?_ | refine w_pT rfl ka rfl ?_ | refine w_pF rfl ka rfl ?_ | refine o_y rfl ka ?_ | refine o_nT rfl ka ?_ | refine o_nF rfl ka ?_ | refine o_nU rfl ?_ | refine aw_cT rfl ka ?_ | refine aw_cF rfl ka ?_ | refine o_gT rfl (fun h => ?_) (fun h => ?_) | refine o_gF rfl (fun h => ?_) (fun h => ?_) | refine aw_cond rfl (fun h => ?_) (fun h => ?_) | refine aw_block ?_ | refine aw_skip ?_ | refine aw_ret ?_ | refine q_ret ?_ | refine q_blockN ?_ | refine q_blockR ?_ | refine aw_exit ?_ | refine q_exit ?_ | refine q_blockE ?_ | refine q_blockX de_ ?_ | refine fin_r rfl ?_ | (refine w_req rfl ?_ ?_; · exact rq_S5) | (refine w_lk rfl ?_; refine ⟨_, lk_, ?_⟩) | refine w_look (l' := _ :: _) rfl rfl ?_ | refine w_look (l' := []) rfl rfl ?_ | refine w_req rfl ?_ ?_ | refine w_pick rfl (fun b => ?_) | refine l_call rfl (c2) ?_ | refine aw_drw kr_ ?_ | refine d_cons ?_ | refine l_ok rfl ?_ | refine d_nil kr_ ?_ | refine d_y rfl ka ?_ | refine d_nT rfl ka ?_ | refine d_nF rfl ka ?_ | refine d_nU rfl ?_ | refine l_pT rfl ka rfl ?_ | refine l_pF rfl ka rfl ?_ | refine d_gT rfl (fun h => ?_) (fun h => ?_) | refine d_gF rfl (fun h => ?_) (fun h => ?_) | (refine l_req rfl ?_ ?_; · exact rq_S5) | (refine l_lk rfl ?_; refine ⟨_, lk_, ?_⟩) | refine l_look (l' := _ :: _) rfl rfl ?_ | refine l_look (l' := []) rfl rfl ?_ | refine l_req rfl ?_ ?_)
    rfl
  | true =>
    rw [hd] at c2
    rw [hd, if_pos rfl] at hM
    obtain ⟨d1, d2, d3, d4⟩ := dOk_sz hd
    have c3 := scan a b (n := b.length) rfl (by omega) (fun x hx => by have := d3 x hx; omega)
    have hsl := scanM_len a
    have hsd := scan_d (a := a)
    have hsm := sumD_24 _ hsd
    have c4 := foldI (scanM a) rfl (by omega) (by omega)
    have c5 := topEpoch a b (n := b.length) rfl (by omega) (fun x hx => by have := d3 x hx; omega)
    have ht := top_range a
    have w1 : IntKind.i64.wrap (topM a + 1) = topM a + 1 := wrap64 (by omega) (by omega)
    cases hF : foldM [] (scanM a) with
    | none =>
      rw [hF] at c4 hM
      have c4 : AGood e.P 52 [.ro (.row 6 (scanM a).length (rT (scanM a)))] (.tup [.row 4 0 [], .bool false]) [.keep] := c4
      simp only at hM
      subst hM
      refine agood eok (fn := Try.f60) kr_ de_ rfl kr_ ok_S5 ok_S5 ?_
      repeat' (first | refine o_cons ?_ | refine w_ok rfl ?_ | refine w_call rfl (c2) ?_ | refine w_call rfl (c3) ?_ | refine w_call rfl (c4) ?_ | refine w_call rfl (c5) ?_ | refine o_nil ?_ | refine q_then ?_ | refine sq ?_ | refine aw_seq ?_ | refine aw_reg ?_ | refine w_pT rfl ka rfl ?_ | refine w_pF rfl ka rfl ?_ | refine o_y rfl ka ?_ | refine o_nT rfl ka ?_ | refine o_nF rfl ka ?_ | refine o_nU rfl ?_ | refine aw_cT rfl ka ?_ | refine aw_cF rfl ka ?_ | refine o_gT rfl (fun h => ?_) (fun h => ?_) | refine o_gF rfl (fun h => ?_) (fun h => ?_) | refine aw_cond rfl (fun h => ?_) (fun h => ?_) | refine aw_block ?_ | refine aw_skip ?_ | refine aw_ret ?_ | refine q_ret ?_ | refine q_blockN ?_ | refine q_blockR ?_ | refine aw_exit ?_ | refine q_exit ?_ | refine q_blockE ?_ | refine q_blockX de_ ?_ | refine fin_r rfl ?_ | (refine w_req rfl ?_ ?_; · exact rq_S5) | (refine w_lk rfl ?_; refine ⟨_, lk_, ?_⟩) | refine w_look (l' := _ :: _) rfl rfl ?_ | refine w_look (l' := []) rfl rfl ?_ | refine w_req rfl ?_ ?_ | refine w_pick rfl (fun b => ?_) | refine l_call rfl (c2) ?_ | refine l_call rfl (c3) ?_ | refine l_call rfl (c4) ?_ | refine l_call rfl (c5) ?_ | refine aw_drw kr_ ?_ | refine d_cons ?_ | refine l_ok rfl ?_ | refine d_nil kr_ ?_ | refine d_y rfl ka ?_ | refine d_nT rfl ka ?_ | refine d_nF rfl ka ?_ | refine d_nU rfl ?_ | refine l_pT rfl ka rfl ?_ | refine l_pF rfl ka rfl ?_ | refine d_gT rfl (fun h => ?_) (fun h => ?_) | refine d_gF rfl (fun h => ?_) (fun h => ?_) | (refine l_req rfl ?_ ?_; · exact rq_S5) | (refine l_lk rfl ?_; refine ⟨_, lk_, ?_⟩) | refine l_look (l' := _ :: _) rfl rfl ?_ | refine l_look (l' := []) rfl rfl ?_ | refine l_req rfl ?_ ?_)
      rfl
    | some u =>
      rw [hF] at c4 hM
      have c4 : AGood e.P 52 [.ro (.row 6 (scanM a).length (rT (scanM a)))] (.tup [.row 4 u.length (uT u), .bool true]) [.keep] := c4
      have c6 := copyDisk a b rfl rfl (by omega) (by omega)
      simp only at hM
      by_cases hq : 10000 < topM a + 1
      · have k1 : decide (IntKind.i64.wrap (topM a + 1) > 10000) = true := by rw [w1]; exact decide_eq_true hq
        rw [if_pos hq] at hM
        subst hM
        refine agood eok (fn := Try.f60) kr_ de_ rfl kr_ ok_S5 ok_S5 ?_
        repeat' (first | refine o_cons ?_ | refine w_ok rfl ?_ | refine w_call rfl (c2) ?_ | refine w_call rfl (c3) ?_ | refine w_call rfl (c4) ?_ | refine w_call rfl (c5) ?_ | refine o_nil ?_ | refine q_then ?_ | refine sq ?_ | refine aw_seq ?_ | refine aw_reg ?_ | refine w_pT rfl ka rfl ?_ | refine w_pF rfl ka rfl ?_ | refine o_y rfl ka ?_ | refine o_nT rfl ka ?_ | refine o_nF rfl ka ?_ | refine o_nU rfl ?_ | refine aw_cT rfl ka ?_ | refine aw_cF rfl ka ?_ | refine o_gT rfl (fun h => ?_) (fun h => ?_) | refine o_gF rfl (fun h => ?_) (fun h => ?_) | refine aw_cond rfl (fun h => ?_) (fun h => ?_) | refine aw_block ?_ | refine aw_skip ?_ | refine aw_ret ?_ | refine q_ret ?_ | refine q_blockN ?_ | refine q_blockR ?_ | refine aw_exit ?_ | refine q_exit ?_ | refine q_blockE ?_ | refine q_blockX de_ ?_ | refine fin_r rfl ?_ | (refine w_req rfl ?_ ?_; · exact rq_S5) | (refine w_lk rfl ?_; refine ⟨_, lk_, ?_⟩) | refine w_look (l' := _ :: _) rfl rfl ?_ | refine w_look (l' := []) rfl rfl ?_ | refine w_req rfl ?_ ?_ | refine w_pick rfl (fun b => ?_) | refine l_call rfl (c2) ?_ | refine l_call rfl (c3) ?_ | refine l_call rfl (c4) ?_ | refine l_call rfl (c5) ?_ | refine aw_drw kr_ ?_ | refine d_cons ?_ | refine l_ok rfl ?_ | refine d_nil kr_ ?_ | refine d_y rfl ka ?_ | refine d_nT rfl ka ?_ | refine d_nF rfl ka ?_ | refine d_nU rfl ?_ | refine l_pT rfl ka rfl ?_ | refine l_pF rfl ka rfl ?_ | refine d_gT rfl (fun h => ?_) (fun h => ?_) | refine d_gF rfl (fun h => ?_) (fun h => ?_) | (refine l_req rfl ?_ ?_; · exact rq_S5) | (refine l_lk rfl ?_; refine ⟨_, lk_, ?_⟩) | refine l_look (l' := _ :: _) rfl rfl ?_ | refine l_look (l' := []) rfl rfl ?_ | refine l_req rfl ?_ ?_)
        rfl
      · have k1 : decide (IntKind.i64.wrap (topM a + 1) > 10000) = false := by rw [w1]; exact decide_eq_false hq
        rw [if_neg hq] at hM
        subst hM
        refine agood eok (fn := Try.f60) kr_ de_ rfl kr_ ok_S5 ok_S5 ?_
        repeat' (first | refine o_cons ?_ | refine w_ok rfl ?_ | refine w_call rfl (c2) ?_ | refine w_call rfl (c3) ?_ | refine w_call rfl (c4) ?_ | refine w_call rfl (c5) ?_ | refine w_call rfl (c6) ?_ | refine o_nil ?_ | refine q_then ?_ | refine sq ?_ | refine aw_seq ?_ | refine aw_reg ?_ | refine w_pT rfl ka rfl ?_ | refine w_pF rfl ka rfl ?_ | refine o_y rfl ka ?_ | refine o_nT rfl ka ?_ | refine o_nF rfl ka ?_ | refine o_nU rfl ?_ | refine aw_cT rfl ka ?_ | refine aw_cF rfl ka ?_ | refine o_gT rfl (fun h => ?_) (fun h => ?_) | refine o_gF rfl (fun h => ?_) (fun h => ?_) | refine aw_cond rfl (fun h => ?_) (fun h => ?_) | refine aw_block ?_ | refine aw_skip ?_ | refine aw_ret ?_ | refine q_ret ?_ | refine q_blockN ?_ | refine q_blockR ?_ | refine aw_exit ?_ | refine q_exit ?_ | refine q_blockE ?_ | refine q_blockX de_ ?_ | refine fin_r rfl ?_ | (refine w_req rfl ?_ ?_; · exact rq_S5) | (refine w_lk rfl ?_; refine ⟨_, lk_, ?_⟩) | refine w_look (l' := _ :: _) rfl rfl ?_ | refine w_look (l' := []) rfl rfl ?_ | refine w_req rfl ?_ ?_ | refine w_pick rfl (fun b => ?_) | refine l_call rfl (c2) ?_ | refine l_call rfl (c3) ?_ | refine l_call rfl (c4) ?_ | refine l_call rfl (c5) ?_ | refine l_call rfl (c6) ?_ | refine aw_drw kr_ ?_ | refine d_cons ?_ | refine l_ok rfl ?_ | refine d_nil kr_ ?_ | refine d_y rfl ka ?_ | refine d_nT rfl ka ?_ | refine d_nF rfl ka ?_ | refine d_nU rfl ?_ | refine l_pT rfl ka rfl ?_ | refine l_pF rfl ka rfl ?_ | refine d_gT rfl (fun h => ?_) (fun h => ?_) | refine d_gF rfl (fun h => ?_) (fun h => ?_) | (refine l_req rfl ?_ ?_; · exact rq_S5) | (refine l_lk rfl ?_; refine ⟨_, lk_, ?_⟩) | refine l_look (l' := _ :: _) rfl rfl ?_ | refine l_look (l' := []) rfl rfl ?_ | refine l_req rfl ?_ ?_)
        rw [w1]
        rfl
theorem openS (a b : List ByteArray) {m n : Nat} (hm : m = a.length) (hn : n = b.length) : AGood e.P 59 [dkR a b m n] (openT (openM a b)) [keep2] := by
  subst hm; subst hn
  have c2 := diskOkS a b rfl rfl
  have hM : ∃ M, openM a b = M := ⟨_, rfl⟩
  obtain ⟨M, hM⟩ := hM
  rw [hM]
  unfold openM at hM
  cases hd : dOk a b with
  | false =>
    rw [hd] at c2
    rw [hd, if_neg Bool.false_ne_true] at hM
    subst hM
    refine agood eok (fn := Try.f59) kr_ de_ rfl kr_ ok_S5 ok_S5 ?_
    repeat' (first | refine o_cons ?_ | refine w_ok rfl ?_ | refine w_call rfl (c2) ?_ | refine o_nil ?_ | refine q_then ?_ | refine sq ?_ | refine aw_seq ?_ | refine aw_reg ?_ | refine w_pT rfl ka rfl ?_ | refine w_pF rfl ka rfl ?_ | refine o_y rfl ka ?_ | refine o_nT rfl ka ?_ | refine o_nF rfl ka ?_ | refine o_nU rfl ?_ | refine aw_cT rfl ka ?_ | refine aw_cF rfl ka ?_ | refine o_gT rfl (fun h => ?_) (fun h => ?_) | refine o_gF rfl (fun h => ?_) (fun h => ?_) | refine aw_cond rfl (fun h => ?_) (fun h => ?_) | refine aw_block ?_ | refine aw_skip ?_ | refine aw_ret ?_ | refine q_ret ?_ | refine q_blockN ?_ | refine q_blockR ?_ | refine aw_exit ?_ | refine q_exit ?_ | refine q_blockE ?_ | refine q_blockX de_ ?_ | refine fin_r rfl ?_ | (refine w_req rfl ?_ ?_; · exact rq_S5) | (refine w_lk rfl ?_; refine ⟨_, lk_, ?_⟩) | refine w_look (l' := _ :: _) rfl rfl ?_ | refine w_look (l' := []) rfl rfl ?_ | refine w_req rfl ?_ ?_ | refine w_pick rfl (fun b => ?_) | refine l_call rfl (c2) ?_ | refine aw_drw kr_ ?_ | refine d_cons ?_ | refine l_ok rfl ?_ | refine d_nil kr_ ?_ | refine d_y rfl ka ?_ | refine d_nT rfl ka ?_ | refine d_nF rfl ka ?_ | refine d_nU rfl ?_ | refine l_pT rfl ka rfl ?_ | refine l_pF rfl ka rfl ?_ | refine d_gT rfl (fun h => ?_) (fun h => ?_) | refine d_gF rfl (fun h => ?_) (fun h => ?_) | (refine l_req rfl ?_ ?_; · exact rq_S5) | (refine l_lk rfl ?_; refine ⟨_, lk_, ?_⟩) | refine l_look (l' := _ :: _) rfl rfl ?_ | refine l_look (l' := []) rfl rfl ?_ | refine l_req rfl ?_ ?_)
    rfl
  | true =>
    rw [hd] at c2
    rw [hd, if_pos rfl] at hM
    obtain ⟨d1, d2, d3, d4⟩ := dOk_sz hd
    have c3 := scanS a b (n := b.length) rfl (by omega) (fun x hx => by have := d3 x hx; omega)
    have hsl := scanM_len a
    have hsd := scan_d (a := a)
    have hsm := sumD_24 _ hsd
    have c4 := foldS (scanM a) rfl (by omega) (by omega)
    have c5 := topEpochS a b (n := b.length) rfl (by omega) (fun x hx => by have := d3 x hx; omega)
    have ht := top_range a
    have w1 : IntKind.i64.wrap (topM a + 1) = topM a + 1 := wrap64 (by omega) (by omega)
    cases hF : foldM [] (scanM a) with
    | none =>
      rw [hF] at c4 hM
      have c4 : AGood e.P 50 [.ro (.row 6 (scanM a).length (rT (scanM a)))] (.tup [.row 4 0 [], .bool false]) [.keep] := c4
      simp only at hM
      subst hM
      refine agood eok (fn := Try.f59) kr_ de_ rfl kr_ ok_S5 ok_S5 ?_
      repeat' (first | refine o_cons ?_ | refine w_ok rfl ?_ | refine w_call rfl (c2) ?_ | refine w_call rfl (c3) ?_ | refine w_call rfl (c4) ?_ | refine w_call rfl (c5) ?_ | refine o_nil ?_ | refine q_then ?_ | refine sq ?_ | refine aw_seq ?_ | refine aw_reg ?_ | refine w_pT rfl ka rfl ?_ | refine w_pF rfl ka rfl ?_ | refine o_y rfl ka ?_ | refine o_nT rfl ka ?_ | refine o_nF rfl ka ?_ | refine o_nU rfl ?_ | refine aw_cT rfl ka ?_ | refine aw_cF rfl ka ?_ | refine o_gT rfl (fun h => ?_) (fun h => ?_) | refine o_gF rfl (fun h => ?_) (fun h => ?_) | refine aw_cond rfl (fun h => ?_) (fun h => ?_) | refine aw_block ?_ | refine aw_skip ?_ | refine aw_ret ?_ | refine q_ret ?_ | refine q_blockN ?_ | refine q_blockR ?_ | refine aw_exit ?_ | refine q_exit ?_ | refine q_blockE ?_ | refine q_blockX de_ ?_ | refine fin_r rfl ?_ | (refine w_req rfl ?_ ?_; · exact rq_S5) | (refine w_lk rfl ?_; refine ⟨_, lk_, ?_⟩) | refine w_look (l' := _ :: _) rfl rfl ?_ | refine w_look (l' := []) rfl rfl ?_ | refine w_req rfl ?_ ?_ | refine w_pick rfl (fun b => ?_) | refine l_call rfl (c2) ?_ | refine l_call rfl (c3) ?_ | refine l_call rfl (c4) ?_ | refine l_call rfl (c5) ?_ | refine aw_drw kr_ ?_ | refine d_cons ?_ | refine l_ok rfl ?_ | refine d_nil kr_ ?_ | refine d_y rfl ka ?_ | refine d_nT rfl ka ?_ | refine d_nF rfl ka ?_ | refine d_nU rfl ?_ | refine l_pT rfl ka rfl ?_ | refine l_pF rfl ka rfl ?_ | refine d_gT rfl (fun h => ?_) (fun h => ?_) | refine d_gF rfl (fun h => ?_) (fun h => ?_) | (refine l_req rfl ?_ ?_; · exact rq_S5) | (refine l_lk rfl ?_; refine ⟨_, lk_, ?_⟩) | refine l_look (l' := _ :: _) rfl rfl ?_ | refine l_look (l' := []) rfl rfl ?_ | refine l_req rfl ?_ ?_)
      rfl
    | some u =>
      rw [hF] at c4 hM
      have c4 : AGood e.P 50 [.ro (.row 6 (scanM a).length (rT (scanM a)))] (.tup [.row 4 u.length (uT u), .bool true]) [.keep] := c4
      have c6 := copyDiskS a b rfl rfl (by omega) (by omega)
      simp only at hM
      by_cases hq : 10000 < topM a + 1
      · have k1 : decide (IntKind.i64.wrap (topM a + 1) > 10000) = true := by rw [w1]; exact decide_eq_true hq
        rw [if_pos hq] at hM
        subst hM
        refine agood eok (fn := Try.f59) kr_ de_ rfl kr_ ok_S5 ok_S5 ?_
        repeat' (first | refine o_cons ?_ | refine w_ok rfl ?_ | refine w_call rfl (c2) ?_ | refine w_call rfl (c3) ?_ | refine w_call rfl (c4) ?_ | refine w_call rfl (c5) ?_ | refine o_nil ?_ | refine q_then ?_ | refine sq ?_ | refine aw_seq ?_ | refine aw_reg ?_ | refine w_pT rfl ka rfl ?_ | refine w_pF rfl ka rfl ?_ | refine o_y rfl ka ?_ | refine o_nT rfl ka ?_ | refine o_nF rfl ka ?_ | refine o_nU rfl ?_ | refine aw_cT rfl ka ?_ | refine aw_cF rfl ka ?_ | refine o_gT rfl (fun h => ?_) (fun h => ?_) | refine o_gF rfl (fun h => ?_) (fun h => ?_) | refine aw_cond rfl (fun h => ?_) (fun h => ?_) | refine aw_block ?_ | refine aw_skip ?_ | refine aw_ret ?_ | refine q_ret ?_ | refine q_blockN ?_ | refine q_blockR ?_ | refine aw_exit ?_ | refine q_exit ?_ | refine q_blockE ?_ | refine q_blockX de_ ?_ | refine fin_r rfl ?_ | (refine w_req rfl ?_ ?_; · exact rq_S5) | (refine w_lk rfl ?_; refine ⟨_, lk_, ?_⟩) | refine w_look (l' := _ :: _) rfl rfl ?_ | refine w_look (l' := []) rfl rfl ?_ | refine w_req rfl ?_ ?_ | refine w_pick rfl (fun b => ?_) | refine l_call rfl (c2) ?_ | refine l_call rfl (c3) ?_ | refine l_call rfl (c4) ?_ | refine l_call rfl (c5) ?_ | refine aw_drw kr_ ?_ | refine d_cons ?_ | refine l_ok rfl ?_ | refine d_nil kr_ ?_ | refine d_y rfl ka ?_ | refine d_nT rfl ka ?_ | refine d_nF rfl ka ?_ | refine d_nU rfl ?_ | refine l_pT rfl ka rfl ?_ | refine l_pF rfl ka rfl ?_ | refine d_gT rfl (fun h => ?_) (fun h => ?_) | refine d_gF rfl (fun h => ?_) (fun h => ?_) | (refine l_req rfl ?_ ?_; · exact rq_S5) | (refine l_lk rfl ?_; refine ⟨_, lk_, ?_⟩) | refine l_look (l' := _ :: _) rfl rfl ?_ | refine l_look (l' := []) rfl rfl ?_ | refine l_req rfl ?_ ?_)
        rfl
      · have k1 : decide (IntKind.i64.wrap (topM a + 1) > 10000) = false := by rw [w1]; exact decide_eq_false hq
        rw [if_neg hq] at hM
        subst hM
        refine agood eok (fn := Try.f59) kr_ de_ rfl kr_ ok_S5 ok_S5 ?_
        repeat' (first | refine o_cons ?_ | refine w_ok rfl ?_ | refine w_call rfl (c2) ?_ | refine w_call rfl (c3) ?_ | refine w_call rfl (c4) ?_ | refine w_call rfl (c5) ?_ | refine w_call rfl (c6) ?_ | refine o_nil ?_ | refine q_then ?_ | refine sq ?_ | refine aw_seq ?_ | refine aw_reg ?_ | refine w_pT rfl ka rfl ?_ | refine w_pF rfl ka rfl ?_ | refine o_y rfl ka ?_ | refine o_nT rfl ka ?_ | refine o_nF rfl ka ?_ | refine o_nU rfl ?_ | refine aw_cT rfl ka ?_ | refine aw_cF rfl ka ?_ | refine o_gT rfl (fun h => ?_) (fun h => ?_) | refine o_gF rfl (fun h => ?_) (fun h => ?_) | refine aw_cond rfl (fun h => ?_) (fun h => ?_) | refine aw_block ?_ | refine aw_skip ?_ | refine aw_ret ?_ | refine q_ret ?_ | refine q_blockN ?_ | refine q_blockR ?_ | refine aw_exit ?_ | refine q_exit ?_ | refine q_blockE ?_ | refine q_blockX de_ ?_ | refine fin_r rfl ?_ | (refine w_req rfl ?_ ?_; · exact rq_S5) | (refine w_lk rfl ?_; refine ⟨_, lk_, ?_⟩) | refine w_look (l' := _ :: _) rfl rfl ?_ | refine w_look (l' := []) rfl rfl ?_ | refine w_req rfl ?_ ?_ | refine w_pick rfl (fun b => ?_) | refine l_call rfl (c2) ?_ | refine l_call rfl (c3) ?_ | refine l_call rfl (c4) ?_ | refine l_call rfl (c5) ?_ | refine l_call rfl (c6) ?_ | refine aw_drw kr_ ?_ | refine d_cons ?_ | refine l_ok rfl ?_ | refine d_nil kr_ ?_ | refine d_y rfl ka ?_ | refine d_nT rfl ka ?_ | refine d_nF rfl ka ?_ | refine d_nU rfl ?_ | refine l_pT rfl ka rfl ?_ | refine l_pF rfl ka rfl ?_ | refine d_gT rfl (fun h => ?_) (fun h => ?_) | refine d_gF rfl (fun h => ?_) (fun h => ?_) | (refine l_req rfl ?_ ?_; · exact rq_S5) | (refine l_lk rfl ?_; refine ⟨_, lk_, ?_⟩) | refine l_look (l' := _ :: _) rfl rfl ?_ | refine l_look (l' := []) rfl rfl ?_ | refine l_req rfl ?_ ?_)
        rw [w1]
        rfl
theorem upM_small (B : Nat) : ∀ l : List Upp, (∀ x ∈ l, x.d.length ≤ B) → (l.map upM).sum ≤ l.length * (3 + B) := by
  intro l
  induction l with
  | nil => intro _; simp
  | cons r l ih =>
    intro h
    have h1 := h r (by simp)
    have h2 := ih (fun x hx => h x (by simp [hx]))
    simp only [List.map_cons, List.sum_cons, List.length_cons, upM] at *
    rw [Nat.add_mul]
    omega
theorem open_sm {a b : List ByteArray} : ((openM a b).getD zeroSt).sm ∧ kSt 1 ((openM a b).getD zeroSt) ≤ 1000000000000 := by
  have hz : zeroSt.sm ∧ kSt 1 zeroSt ≤ 1000000000000 := ⟨⟨by decide, by decide, by decide, fun x hx => by cases hx⟩, by decide⟩
  unfold openM
  split
  · rename_i hd
    obtain ⟨d1, d2, d3, d4⟩ := dOk_sz hd
    split
    · exact hz
    · rename_i u hF
      obtain ⟨hul, hud⟩ := foldM_ok _ (B := 0) hF (Nat.zero_le _) (fun x hx => by cases hx)
      have hsl := scanM_len a
      have hsm := sumD_24 _ (scan_d (a := a))
      split
      · exact hz
      · have hd : ∀ x ∈ u, x.d.length ≤ 4800 := fun x hx => by have := hud x hx; omega
        refine ⟨⟨by simp only [Option.getD_some]; omega, by simp only [Option.getD_some]; omega, by simp only [Option.getD_some]; omega, fun x hx => by have := hd x hx; omega⟩, ?_⟩
        have := upM_small 4800 u hd
        simp only [Option.getD_some, kSt, kAll]
        omega
  · exact hz
theorem ok_d {s : St} (h : okM s = true) : dOk s.a s.b = true := by
  unfold okM at h
  rw [Bool.and_eq_true, Bool.and_eq_true] at h
  exact h.1.2
theorem sync_sm {s : St} (h : s.sm) (hk : kSt 1 s ≤ 1000000000000) : (syncM s).sm ∧ kSt 1 (syncM s) ≤ 1000000000000 := by
  unfold syncM
  split
  · rename_i hc
    have hd := (dOk_sz (ok_d hc)).1
    refine ⟨⟨h.a, h.a, h.u, h.d⟩, ?_⟩
    have ha := h.a
    unfold kSt kAll at *
    simp only
    omega
  · exact ⟨h, hk⟩
end Go.Proofs.Ytbkpmljdmlhmhaa
