import Derived.Test.YtbkpmljdmlhmhaaS4
import Derived.Test.YtbkpmljdmlhmhaaX6
import Derived.Test.YtbkpmljdmlhmhaaX2
namespace Go.Proofs.Ytbkpmljdmlhmhaa
open Go Go.AM Ty
set_option maxRecDepth 100000
set_option maxHeartbeats 4000000
set_option linter.unusedVariables false
set_option linter.unusedSimpArgs false
attribute [local irreducible] aw aops aopsD wpo wpoL condW guardW thenQ blockQ finQ Le AGood
theorem rq_S5 {p : Prop} (h : p := by first | assumption | exact uT_plain _ | exact rT_plain _ | exact sT_plain _ | exact rq_) : p := h
theorem ok_S5 {p : Prop} (h : p := by first | exact openT_ok _ | (simp [Tr.okR, Tr.okRL, Tr.plainL, Tr.plain, cells1, Tr.cellB, PB.okRL, PB.okR, bT_plain, sT_plain, oT_plain, nT_plain, uT_plain, rT_plain]; done) | exact ok_) : p := h
attribute [local irreducible] getRecM scanM foldM topM dOk sameUs okM
/-- the store behind a flush, where it is right -/
def syncM (s : St) : St := if okM s then ⟨s.a, s.a, s.e, s.n, s.u⟩ else s
theorem syncI (s : St) (h : s.sm) : AGood e.P 63 [stR s] (stT (syncM s)) [keep5] := by
  have c1 := copyStore s h
  have c2 := storeOk s h
  have c3 := flushI s.a s.b rfl rfl h.a
  unfold syncM
  cases hk : okM s with
  | true =>
    rw [hk] at c2
    refine agood eok (fn := Try.f63) kr_ de_ rfl kr_ ok_S5 ok_S5 ?_
    repeat' (first | refine o_cons ?_ | refine w_ok rfl ?_ | refine w_call rfl (c1) ?_ | refine w_call rfl (c2) ?_ | refine w_call rfl (c3) ?_ | refine o_nil ?_ | refine q_then ?_ | refine sq ?_ | refine aw_seq ?_ | refine aw_reg ?_ | refine w_pT rfl ka rfl ?_ | refine w_pF rfl ka rfl ?_ | refine o_y rfl ka ?_ | refine o_nT rfl ka ?_ | refine o_nF rfl ka ?_ | refine o_nU rfl ?_ | refine aw_cT rfl ka ?_ | refine aw_cF rfl ka ?_ | refine o_gT rfl (fun h => ?_) (fun h => ?_) | refine o_gF rfl (fun h => ?_) (fun h => ?_) | refine aw_cond rfl (fun h => ?_) (fun h => ?_) | refine aw_block ?_ | refine aw_skip ?_ | refine aw_ret ?_ | refine q_ret ?_ | refine q_blockN ?_ | refine q_blockR ?_ | refine aw_exit ?_ | refine q_exit ?_ | refine q_blockE ?_ | refine q_blockX de_ ?_ | refine fin_r rfl ?_ | (refine w_req rfl ?_ ?_; · exact rq_S5) | (refine w_lk rfl ?_; refine ⟨_, lk_, ?_⟩) | refine w_look (l' := _ :: _) rfl rfl ?_ | refine w_look (l' := []) rfl rfl ?_ | refine w_req rfl ?_ ?_ | refine w_pick rfl (fun b => ?_) | refine l_call rfl (c1) ?_ | refine l_call rfl (c2) ?_ | refine l_call rfl (c3) ?_ | refine aw_drw kr_ ?_ | refine d_cons ?_ | refine l_ok rfl ?_ | refine d_nil kr_ ?_ | refine d_y rfl ka ?_ | refine d_nT rfl ka ?_ | refine d_nF rfl ka ?_ | refine d_nU rfl ?_ | refine l_pT rfl ka rfl ?_ | refine l_pF rfl ka rfl ?_ | refine d_gT rfl (fun h => ?_) (fun h => ?_) | refine d_gF rfl (fun h => ?_) (fun h => ?_) | (refine l_req rfl ?_ ?_; · exact rq_S5) | (refine l_lk rfl ?_; refine ⟨_, lk_, ?_⟩) | refine l_look (l' := _ :: _) rfl rfl ?_ | refine l_look (l' := []) rfl rfl ?_ | refine l_req rfl ?_ ?_)
    rfl
  | false =>
    rw [hk] at c2
    refine agood eok (fn := Try.f63) kr_ de_ rfl kr_ ok_S5 ok_S5 ?_
    repeat' (first | refine o_cons ?_ | refine w_ok rfl ?_ | refine w_call rfl (c1) ?_ | refine w_call rfl (c2) ?_ | refine w_call rfl (c3) ?_ | refine o_nil ?_ | refine q_then ?_ | refine sq ?_ | refine aw_seq ?_ | refine aw_reg ?_ | refine w_pT rfl ka rfl ?_ | refine w_pF rfl ka rfl ?_ | refine o_y rfl ka ?_ | refine o_nT rfl ka ?_ | refine o_nF rfl ka ?_ | refine o_nU rfl ?_ | refine aw_cT rfl ka ?_ | refine aw_cF rfl ka ?_ | refine o_gT rfl (fun h => ?_) (fun h => ?_) | refine o_gF rfl (fun h => ?_) (fun h => ?_) | refine aw_cond rfl (fun h => ?_) (fun h => ?_) | refine aw_block ?_ | refine aw_skip ?_ | refine aw_ret ?_ | refine q_ret ?_ | refine q_blockN ?_ | refine q_blockR ?_ | refine aw_exit ?_ | refine q_exit ?_ | refine q_blockE ?_ | refine q_blockX de_ ?_ | refine fin_r rfl ?_ | (refine w_req rfl ?_ ?_; · exact rq_S5) | (refine w_lk rfl ?_; refine ⟨_, lk_, ?_⟩) | refine w_look (l' := _ :: _) rfl rfl ?_ | refine w_look (l' := []) rfl rfl ?_ | refine w_req rfl ?_ ?_ | refine w_pick rfl (fun b => ?_) | refine l_call rfl (c1) ?_ | refine l_call rfl (c2) ?_ | refine l_call rfl (c3) ?_ | refine aw_drw kr_ ?_ | refine d_cons ?_ | refine l_ok rfl ?_ | refine d_nil kr_ ?_ | refine d_y rfl ka ?_ | refine d_nT rfl ka ?_ | refine d_nF rfl ka ?_ | refine d_nU rfl ?_ | refine l_pT rfl ka rfl ?_ | refine l_pF rfl ka rfl ?_ | refine d_gT rfl (fun h => ?_) (fun h => ?_) | refine d_gF rfl (fun h => ?_) (fun h => ?_) | (refine l_req rfl ?_ ?_; · exact rq_S5) | (refine l_lk rfl ?_; refine ⟨_, lk_, ?_⟩) | refine l_look (l' := _ :: _) rfl rfl ?_ | refine l_look (l' := []) rfl rfl ?_ | refine l_req rfl ?_ ?_)
    rfl
theorem syncS (s : St) (h : s.sm) : AGood e.P 62 [stR s] (stT (syncM s)) [keep5] := by
  have c1 := copyStoreS s h
  have c2 := storeOkS s h
  have c3 := flushS s.a s.b rfl rfl h.a
  unfold syncM
  cases hk : okM s with
  | true =>
    rw [hk] at c2
    refine agood eok (fn := Try.f62) kr_ de_ rfl kr_ ok_S5 ok_S5 ?_
    repeat' (first | refine o_cons ?_ | refine w_ok rfl ?_ | refine w_call rfl (c1) ?_ | refine w_call rfl (c2) ?_ | refine w_call rfl (c3) ?_ | refine o_nil ?_ | refine q_then ?_ | refine sq ?_ | refine aw_seq ?_ | refine aw_reg ?_ | refine w_pT rfl ka rfl ?_ | refine w_pF rfl ka rfl ?_ | refine o_y rfl ka ?_ | refine o_nT rfl ka ?_ | refine o_nF rfl ka ?_ | refine o_nU rfl ?_ | refine aw_cT rfl ka ?_ | refine aw_cF rfl ka ?_ | refine o_gT rfl (fun h => ?_) (fun h => ?_) | refine o_gF rfl (fun h => ?_) (fun h => ?_) | refine aw_cond rfl (fun h => ?_) (fun h => ?_) | refine aw_block ?_ | refine aw_skip ?_ | refine aw_ret ?_ | refine q_ret ?_ | refine q_blockN ?_ | refine q_blockR ?_ | refine aw_exit ?_ | refine q_exit ?_ | refine q_blockE ?_ | refine q_blockX de_ ?_ | refine fin_r rfl ?_ | (refine w_req rfl ?_ ?_; · exact rq_S5) | (refine w_lk rfl ?_; refine ⟨_, lk_, ?_⟩) | refine w_look (l' := _ :: _) rfl rfl ?_ | refine w_look (l' := []) rfl rfl ?_ | refine w_req rfl ?_ ?_ | refine w_pick rfl (fun b => ?_) | refine l_call rfl (c1) ?_ | refine l_call rfl (c2) ?_ | refine l_call rfl (c3) ?_ | refine aw_drw kr_ ?_ | refine d_cons ?_ | refine l_ok rfl ?_ | refine d_nil kr_ ?_ | refine d_y rfl ka ?_ | refine d_nT rfl ka ?_ | refine d_nF rfl ka ?_ | refine d_nU rfl ?_ | refine l_pT rfl ka rfl ?_ | refine l_pF rfl ka rfl ?_ | refine d_gT rfl (fun h => ?_) (fun h => ?_) | refine d_gF rfl (fun h => ?_) (fun h => ?_) | (refine l_req rfl ?_ ?_; · exact rq_S5) | (refine l_lk rfl ?_; refine ⟨_, lk_, ?_⟩) | refine l_look (l' := _ :: _) rfl rfl ?_ | refine l_look (l' := []) rfl rfl ?_ | refine l_req rfl ?_ ?_)
    rfl
  | false =>
    rw [hk] at c2
    refine agood eok (fn := Try.f62) kr_ de_ rfl kr_ ok_S5 ok_S5 ?_
    repeat' (first | refine o_cons ?_ | refine w_ok rfl ?_ | refine w_call rfl (c1) ?_ | refine w_call rfl (c2) ?_ | refine w_call rfl (c3) ?_ | refine o_nil ?_ | refine q_then ?_ | refine sq ?_ | refine aw_seq ?_ | refine aw_reg ?_ | refine w_pT rfl ka rfl ?_ | refine w_pF rfl ka rfl ?_ | refine o_y rfl ka ?_ | refine o_nT rfl ka ?_ | refine o_nF rfl ka ?_ | refine o_nU rfl ?_ | refine aw_cT rfl ka ?_ | refine aw_cF rfl ka ?_ | refine o_gT rfl (fun h => ?_) (fun h => ?_) | refine o_gF rfl (fun h => ?_) (fun h => ?_) | refine aw_cond rfl (fun h => ?_) (fun h => ?_) | refine aw_block ?_ | refine aw_skip ?_ | refine aw_ret ?_ | refine q_ret ?_ | refine q_blockN ?_ | refine q_blockR ?_ | refine aw_exit ?_ | refine q_exit ?_ | refine q_blockE ?_ | refine q_blockX de_ ?_ | refine fin_r rfl ?_ | (refine w_req rfl ?_ ?_; · exact rq_S5) | (refine w_lk rfl ?_; refine ⟨_, lk_, ?_⟩) | refine w_look (l' := _ :: _) rfl rfl ?_ | refine w_look (l' := []) rfl rfl ?_ | refine w_req rfl ?_ ?_ | refine w_pick rfl (fun b => ?_) | refine l_call rfl (c1) ?_ | refine l_call rfl (c2) ?_ | refine l_call rfl (c3) ?_ | refine aw_drw kr_ ?_ | refine d_cons ?_ | refine l_ok rfl ?_ | refine d_nil kr_ ?_ | refine d_y rfl ka ?_ | refine d_nT rfl ka ?_ | refine d_nF rfl ka ?_ | refine d_nU rfl ?_ | refine l_pT rfl ka rfl ?_ | refine l_pF rfl ka rfl ?_ | refine d_gT rfl (fun h => ?_) (fun h => ?_) | refine d_gF rfl (fun h => ?_) (fun h => ?_) | (refine l_req rfl ?_ ?_; · exact rq_S5) | (refine l_lk rfl ?_; refine ⟨_, lk_, ?_⟩) | refine l_look (l' := _ :: _) rfl rfl ?_ | refine l_look (l' := []) rfl rfl ?_ | refine l_req rfl ?_ ?_)
    rfl
theorem top_range (l : List ByteArray) : -1 ≤ topM l ∧ topM l ≤ 10000 := by
  unfold topM
  have : ∀ (l : List ByteArray) (t : Int), (-1 ≤ t ∧ t ≤ 10000) → -1 ≤ l.foldl topStep t ∧ l.foldl topStep t ≤ 10000 := by
    intro l
    induction l with
    | nil => intro t h; exact h
    | cons s l ih =>
      intro t h
      rw [List.foldl_cons]
      refine ih _ ?_
      unfold topStep
      split
      · rename_i hc
        simp only [Bool.and_eq_true, decide_eq_true_eq] at hc
        obtain ⟨hc, h2⟩ := hc
        cases hg : getRecM s with
        | none => rw [hg] at hc; cases hc
        | some r =>
          have h3 := (recOk_nat (getRecM_ok hg).1).1
          unfold gR at h2 ⊢
          rw [hg] at h2 ⊢
          simp only [Option.getD_some] at h2 ⊢
          omega
      · exact h
  exact this l (-1) (by omega)
/-- a store that is opened -/
def openM (a b : List ByteArray) : Option St := if dOk a b then (match foldM [] (scanM a) with | none => none | some u => if 10000 < topM a + 1 then none else some ⟨a, b, topM a + 1, (scanM a).length, u⟩) else none
def zeroSt : St := ⟨[], [], 0, 0, []⟩
def openT (o : Option St) : Tr := .tup [stT (o.getD zeroSt), .bool o.isSome]
theorem openT_ok (o : Option St) : (openT o).okR := by simp [openT, Tr.okR, Tr.okRL, Tr.plainL, Tr.plain, cells1, Tr.cellB, sT_plain, uT_plain]
theorem openI (a b : List ByteArray) {m n : Nat} (hm : m = a.length) (hn : n = b.length) : AGood e.P 60 [dkR a b m n] (openT (openM a b)) [keep2] := by
  subst hm; subst hn
  have c2 := diskOk a b rfl rfl
  have hM : ∃ M, openM a b = M := ⟨_, rfl⟩
  obtain ⟨M, hM⟩ := hM
  rw [hM]
  unfold openM at hM
  cases hd : dOk a b with
  | false =>
    rw [hd] at c2
    rw [hd, if_neg Bool.false_ne_true] at hM
    subst hM
    refine agood eok (fn := Try.f60) kr_ de_ rfl kr_ ok_S5 ok_S5 ?_
    repeat' (first | refine o_cons ?_ | refine w_ok rfl ?_ | refine w_call rfl (c2) ?_ | refine o_nil ?_ | refine q_then ?_ | refine sq ?_ | refine aw_seq ?_ | refine aw_reg ?_ | refine w_pT rfl ka rfl ?_ | refine w_pF rfl ka rfl ?_ | refine o_y rfl ka ?_ | refine o_nT rfl ka ?_ | refine o_nF rfl ka ?_ | refine o_nU rfl ?_ | refine aw_cT rfl ka ?_ | refine aw_cF rfl ka ?_ | refine o_gT rfl (fun h => ?_) (fun h => ?_) | refine o_gF rfl (fun h => ?_) (fun h => ?_) | refine aw_cond rfl (fun h => ?_) (fun h => ?_) | refine aw_block ?_ | refine aw_skip ?_ | refine aw_ret ?_ | refine q_ret ?_ | refine q_blockN ?_ | refine q_blockR ?_ | refine aw_exit ?_ | refine q_exit ?_ | refine q_blockE ?_ | refine q_blockX de_ ?_ | refine fin_r rfl ?_ | (refine w_req rfl ?_ ?_; · exact rq_S5) | (refine w_lk rfl ?_; refine ⟨_, lk_, ?_⟩) | refine w_look (l' := _ :: _) rfl rfl ?_ | refine w_look (l' := []) rfl rfl ?_ | refine w_req rfl ?_ ?_ | refine w_pick rfl (fun b => ?_) | refine l_call rfl (c2) ?_ | refine aw_drw kr_ ?_ | refine d_cons ?_ | refine l_ok rfl ?_ | refine d_nil kr_ ?_ | refine d_y rfl ka ?_ | refine d_nT rfl ka ?_ | refine d_nF rfl ka ?_ | refine d_nU rfl ?_ | refine l_pT rfl ka rfl ?_ | refine l_pF rfl ka rfl ?_ | refine d_gT rfl (fun h => ?_) (fun h => ?_) | refine d_gF rfl (fun h => ?_) (fun h => ?_) | (refine l_req rfl ?_ ?_; · exact rq_S5) | (refine l_lk rfl ?_; refine ⟨_, lk_, ?_⟩) | refine l_look (l' := _ :: _) rfl rfl ?_ | refine l_look (l' := []) rfl rfl ?_ | refine l_req rfl ?_ ?_)
    rfl
  | true =>
    rw [hd] at c2
    rw [hd, if_pos rfl] at hM
    obtain ⟨d1, d2, d3, d4⟩ := dOk_sz hd
    have c3 := scan a b (n := b.length) rfl (by omega) (fun x hx => by have := d3 x hx; omega)
    have hsl := scanM_len a
    have hsd := scan_d (a := a)
    have hsm := sumD_24 _ hsd
    have c4 := foldI (scanM a) rfl (by omega) (by omega)
    have c5 := topEpoch a b (n := b.length) rfl (by omega) (fun x hx => by have := d3 x hx; omega)
    have ht := top_range a
    have w1 : IntKind.i64.wrap (topM a + 1) = topM a + 1 := wrap64 (by omega) (by omega)
    cases hF : foldM [] (scanM a) with
    | none =>
      rw [hF] at c4 hM
      have c4 : AGood e.P 52 [.ro (.row 6 (scanM a).length (rT (scanM a)))] (.tup [.row 4 0 [], .bool false]) [.keep] := c4
      simp only at hM
      subst hM
      refine agood eok (fn := Try.f60) kr_ de_ rfl kr_ ok_S5 ok_S5 ?_
      repeat' (first | refine o_cons ?_ | refine w_ok rfl ?_ | refine w_call rfl (c2) ?_ | refine w_call rfl (c3) ?_ | refine w_call rfl (c4) ?_ | refine w_call rfl (c5) ?_ | refine o_nil ?_ | refine q_then ?_ | refine sq ?_ | refine aw_seq ?_ | refine aw_reg ?_ | refine w_pT rfl ka rfl ?_ | refine w_pF rfl ka rfl ?_ | refine o_y rfl ka ?_ | refine o_nT rfl ka ?_ | refine o_nF rfl ka ?_ | refine o_nU rfl ?_ | refine aw_cT rfl ka ?_ | refine aw_cF rfl ka ?_ | refine o_gT rfl (fun h => ?_) (fun h => ?_) | refine o_gF rfl (fun h => ?_) (fun h => ?_) | refine aw_cond rfl (fun h => ?_) (fun h => ?_) | refine aw_block ?_ | refine aw_skip ?_ | refine aw_ret ?_ | refine q_ret ?_ | refine q_blockN ?_ | refine q_blockR ?_ | refine aw_exit ?_ | refine q_exit ?_ | refine q_blockE ?_ | refine q_blockX de_ ?_ | refine fin_r rfl ?_ | (refine w_req rfl ?_ ?_; · exact rq_S5) | (refine w_lk rfl ?_; refine ⟨_, lk_, ?_⟩) | refine w_look (l' := _ :: _) rfl rfl ?_ | refine w_look (l' := []) rfl rfl ?_ | refine w_req rfl ?_ ?_ | refine w_pick rfl (fun b => ?_) | refine l_call rfl (c2) ?_ | refine l_call rfl (c3) ?_ | refine l_call rfl (c4) ?_ | refine l_call rfl (c5) ?_ | refine aw_drw kr_ ?_ | refine d_cons ?_ | refine l_ok rfl ?_ | refine d_nil kr_ ?_ | refine d_y rfl ka ?_ | refine d_nT rfl ka ?_ | refine d_nF rfl ka ?_ | refine d_nU rfl ?_ | refine l_pT rfl ka rfl ?_ | refine l_pF rfl ka rfl ?_ | refine d_gT rfl (fun h => ?_) (fun h => ?_) | refine d_gF rfl (fun h => ?_) (fun h => ?_) | (refine l_req rfl ?_ ?_; · exact rq_S5) | (refine l_lk rfl ?_; refine ⟨_, lk_, ?_⟩) | refine l_look (l' := _ :: _) rfl rfl ?_ | refine l_look (l' := []) rfl rfl ?_ | refine l_req rfl ?_ ?_)
      rfl
    | some u =>
      rw [hF] at c4 hM
      have c4 : AGood e.P 52 [.ro (.row 6 (scanM a).length (rT (scanM a)))] (.tup [.row 4 u.length (uT u), .bool true]) [.keep] := c4
      have c6 := copyDisk a b rfl rfl (by omega) (by omega)
      simp only at hM
      by_cases hq : 10000 < topM a + 1
      · have k1 : decide (IntKind.i64.wrap (topM a + 1) > 10000) = true := by rw [w1]; exact decide_eq_true hq
        rw [if_pos hq] at hM
        subst hM
        refine agood eok (fn := Try.f60) kr_ de_ rfl kr_ ok_S5 ok_S5 ?_
        repeat' (first | refine o_cons ?_ | refine w_ok rfl ?_ | refine w_call rfl (c2) ?_ | refine w_call rfl (c3) ?_ | refine w_call rfl (c4) ?_ | refine w_call rfl (c5) ?_ | refine o_nil ?_ | refine q_then ?_ | refine sq ?_ | refine aw_seq ?_ | refine aw_reg ?_ | refine w_pT rfl ka rfl ?_ | refine w_pF rfl ka rfl ?_ | refine o_y rfl ka ?_ | refine o_nT rfl ka ?_ | refine o_nF rfl ka ?_ | refine o_nU rfl ?_ | refine aw_cT rfl ka ?_ | refine aw_cF rfl ka ?_ | refine o_gT rfl (fun h => ?_) (fun h => ?_) | refine o_gF rfl (fun h => ?_) (fun h => ?_) | refine aw_cond rfl (fun h => ?_) (fun h => ?_) | refine aw_block ?_ | refine aw_skip ?_ | refine aw_ret ?_ | refine q_ret ?_ | refine q_blockN ?_ | refine q_blockR ?_ | refine aw_exit ?_ | refine q_exit ?_ | refine q_blockE ?_ | refine q_blockX de_ ?_ | refine fin_r rfl ?_ | (refine w_req rfl ?_ ?_; · exact rq_S5) | (refine w_lk rfl ?_; refine ⟨_, lk_, ?_⟩) | refine w_look (l' := _ :: _) rfl rfl ?_ | refine w_look (l' := []) rfl rfl ?_ | refine w_req rfl ?_ ?_ | refine w_pick rfl (fun b => ?_) | refine l_call rfl (c2) ?_ | refine l_call rfl (c3) ?_ | refine l_call rfl (c4) ?_ | refine l_call rfl (c5) ?_ | refine aw_drw kr_ ?_ | refine d_cons ?_ | refine l_ok rfl ?_ | refine d_nil kr_ ?_ | refine d_y rfl ka ?_ | refine d_nT rfl ka ?_ | refine d_nF rfl ka ?_ | refine d_nU rfl ?_ | refine l_pT rfl ka rfl ?_ | refine l_pF rfl ka rfl ?_ | refine d_gT rfl (fun h => ?_) (fun h => ?_) | refine d_gF rfl (fun h => ?_) (fun h => ?_) | (refine l_req rfl ?_ ?_; · exact rq_S5) | (refine l_lk rfl ?_; refine ⟨_, lk_, ?_⟩) | refine l_look (l' := _ :: _) rfl rfl ?_ | refine l_look (l' := []) rfl rfl ?_ | refine l_req rfl ?_ ?_)
        rfl
      · have k1 : decide (IntKind.i64.wrap (topM a + 1) > 10000) = false := by rw [w1]; exact decide_eq_false hq
        rw [if_neg hq] at hM
        subst hM
        refine agood eok (fn := Try.f60) kr_ de_ rfl kr_ ok_S5 ok_S5 ?_
        repeat' (first | refine o_cons ?_ | refine w_ok rfl ?_ | refine w_call rfl (c2) ?_ | refine w_call rfl (c3) ?_ | refine w_call rfl (c4) ?_ | refine w_call rfl (c5) ?_ | refine w_call rfl (c6) ?_ | refine o_nil ?_ | refine q_then ?_ | refine sq ?_ | refine aw_seq ?_ | refine aw_reg ?_ | refine w_pT rfl ka rfl ?_ | refine w_pF rfl ka rfl ?_ | refine o_y rfl ka ?_ | refine o_nT rfl ka ?_ | refine o_nF rfl ka ?_ | refine o_nU rfl ?_ | refine aw_cT rfl ka ?_ | refine aw_cF rfl ka ?_ | refine o_gT rfl (fun h => ?_) (fun h => ?_) | refine o_gF rfl (fun h => ?_) (fun h => ?_) | refine aw_cond rfl (fun h => ?_) (fun h => ?_) | refine aw_block ?_ | refine aw_skip ?_ | refine aw_ret ?_ | refine q_ret ?_ | refine q_blockN ?_ | refine q_blockR ?_ | refine aw_exit ?_ | refine q_exit ?_ | refine q_blockE ?_ | refine q_blockX de_ ?_ | refine fin_r rfl ?_ | (refine w_req rfl ?_ ?_; · exact rq_S5) | (refine w_lk rfl ?_; refine ⟨_, lk_, ?_⟩) | refine w_look (l' := _ :: _) rfl rfl ?_ | refine w_look (l' := []) rfl rfl ?_ | refine w_req rfl ?_ ?_ | refine w_pick rfl (fun b => ?_) | refine l_call rfl (c2) ?_ | refine l_call rfl (c3) ?_ | refine l_call rfl (c4) ?_ | refine l_call rfl (c5) ?_ | refine l_call rfl (c6) ?_ | refine aw_drw kr_ ?_ | refine d_cons ?_ | refine l_ok rfl ?_ | refine d_nil kr_ ?_ | refine d_y rfl ka ?_ | refine d_nT rfl ka ?_ | refine d_nF rfl ka ?_ | refine d_nU rfl ?_ | refine l_pT rfl ka rfl ?_ | refine l_pF rfl ka rfl ?_ | refine d_gT rfl (fun h => ?_) (fun h => ?_) | refine d_gF rfl (fun h => ?_) (fun h => ?_) | (refine l_req rfl ?_ ?_; · exact rq_S5) | (refine l_lk rfl ?_; refine ⟨_, lk_, ?_⟩) | refine l_look (l' := _ :: _) rfl rfl ?_ | refine l_look (l' := []) rfl rfl ?_ | refine l_req rfl ?_ ?_)
        rw [w1]
        rfl
theorem openS (a b : List ByteArray) {m n : Nat} (hm : m = a.length) (hn : n = b.length) : AGood e.P 59 [dkR a b m n] (openT (openM a b)) [keep2] := by
  subst hm; subst hn
  have c2 := diskOkS a b rfl rfl
  have hM : ∃ M, openM a b = M := ⟨_, rfl⟩
  obtain ⟨M, hM⟩ := hM
  rw [hM]
  unfold openM at hM
  cases hd : dOk a b with
  | false =>
    rw [hd] at c2
    rw [hd, if_neg Bool.false_ne_true] at hM
    subst hM
    refine agood eok (fn := Try.f59) kr_ de_ rfl kr_ ok_S5 ok_S5 ?_
    repeat' (first | refine o_cons ?_ | refine w_ok rfl ?_ | refine w_call rfl (c2) ?_ | refine o_nil ?_ | refine q_then ?_ | refine sq ?_ | refine aw_seq ?_ | refine aw_reg ?_ | refine w_pT rfl ka rfl ?_ | refine w_pF rfl ka rfl ?_ | refine o_y rfl ka ?_ | refine o_nT rfl ka ?_ | refine o_nF rfl ka ?_ | refine o_nU rfl ?_ | refine aw_cT rfl ka ?_ | refine aw_cF rfl ka ?_ | refine o_gT rfl (fun h => ?_) (fun h => ?_) | refine o_gF rfl (fun h => ?_) (fun h => ?_) | refine aw_cond rfl (fun h => ?_) (fun h => ?_) | refine aw_block ?_ | refine aw_skip ?_ | refine aw_ret ?_ | refine q_ret ?_ | refine q_blockN ?_ | refine q_blockR ?_ | refine aw_exit ?_ | refine q_exit ?_ | refine q_blockE ?_ | refine q_blockX de_ ?_ | refine fin_r rfl ?_ | (refine w_req rfl ?_ ?_; · exact rq_S5) | (refine w_lk rfl ?_; refine ⟨_, lk_, ?_⟩) | refine w_look (l' := _ :: _) rfl rfl ?_ | refine w_look (l' := []) rfl rfl ?_ | refine w_req rfl ?_ ?_ | refine w_pick rfl (fun b => ?_) | refine l_call rfl (c2) ?_ | refine aw_drw kr_ ?_ | refine d_cons ?_ | refine l_ok rfl ?_ | refine d_nil kr_ ?_ | refine d_y rfl ka ?_ | refine d_nT rfl ka ?_ | refine d_nF rfl ka ?_ | refine d_nU rfl ?_ | refine l_pT rfl ka rfl ?_ | refine l_pF rfl ka rfl ?_ | refine d_gT rfl (fun h => ?_) (fun h => ?_) | refine d_gF rfl (fun h => ?_) (fun h => ?_) | (refine l_req rfl ?_ ?_; · exact rq_S5) | (refine l_lk rfl ?_; refine ⟨_, lk_, ?_⟩) | refine l_look (l' := _ :: _) rfl rfl ?_ | refine l_look (l' := []) rfl rfl ?_ | refine l_req rfl ?_ ?_)
    rfl
  | true =>
    rw [hd] at c2
    rw [hd, if_pos rfl] at hM
    obtain ⟨d1, d2, d3, d4⟩ := dOk_sz hd
    have c3 := scanS a b (n := b.length) rfl (by omega) (fun x hx => by have := d3 x hx; omega)
    have hsl := scanM_len a
    have hsd := scan_d (a := a)
    have hsm := sumD_24 _ hsd
    have c4 := foldS (scanM a) rfl (by omega) (by omega)
    have c5 := topEpochS a b (n := b.length) rfl (by omega) (fun x hx => by have := d3 x hx; omega)
    have ht := top_range a
    have w1 : IntKind.i64.wrap (topM a + 1) = topM a + 1 := wrap64 (by omega) (by omega)
    cases hF : foldM [] (scanM a) with
    | none =>
      rw [hF] at c4 hM
      have c4 : AGood e.P 50 [.ro (.row 6 (scanM a).length (rT (scanM a)))] (.tup [.row 4 0 [], .bool false]) [.keep] := c4
      simp only at hM
      subst hM
      refine agood eok (fn := Try.f59) kr_ de_ rfl kr_ ok_S5 ok_S5 ?_
      repeat' (first | refine o_cons ?_ | refine w_ok rfl ?_ | refine w_call rfl (c2) ?_ | refine w_call rfl (c3) ?_ | refine w_call rfl (c4) ?_ | refine w_call rfl (c5) ?_ | refine o_nil ?_ | refine q_then ?_ | refine sq ?_ | refine aw_seq ?_ | refine aw_reg ?_ | refine w_pT rfl ka rfl ?_ | refine w_pF rfl ka rfl ?_ | refine o_y rfl ka ?_ | refine o_nT rfl ka ?_ | refine o_nF rfl ka ?_ | refine o_nU rfl ?_ | refine aw_cT rfl ka ?_ | refine aw_cF rfl ka ?_ | refine o_gT rfl (fun h => ?_) (fun h => ?_) | refine o_gF rfl (fun h => ?_) (fun h => ?_) | refine aw_cond rfl (fun h => ?_) (fun h => ?_) | refine aw_block ?_ | refine aw_skip ?_ | refine aw_ret ?_ | refine q_ret ?_ | refine q_blockN ?_ | refine q_blockR ?_ | refine aw_exit ?_ | refine q_exit ?_ | refine q_blockE ?_ | refine q_blockX de_ ?_ | refine fin_r rfl ?_ | (refine w_req rfl ?_ ?_; · exact rq_S5) | (refine w_lk rfl ?_; refine ⟨_, lk_, ?_⟩) | refine w_look (l' := _ :: _) rfl rfl ?_ | refine w_look (l' := []) rfl rfl ?_ | refine w_req rfl ?_ ?_ | refine w_pick rfl (fun b => ?_) | refine l_call rfl (c2) ?_ | refine l_call rfl (c3) ?_ | refine l_call rfl (c4) ?_ | refine l_call rfl (c5) ?_ | refine aw_drw kr_ ?_ | refine d_cons ?_ | refine l_ok rfl ?_ | refine d_nil kr_ ?_ | refine d_y rfl ka ?_ | refine d_nT rfl ka ?_ | refine d_nF rfl ka ?_ | refine d_nU rfl ?_ | refine l_pT rfl ka rfl ?_ | refine l_pF rfl ka rfl ?_ | refine d_gT rfl (fun h => ?_) (fun h => ?_) | refine d_gF rfl (fun h => ?_) (fun h => ?_) | (refine l_req rfl ?_ ?_; · exact rq_S5) | (refine l_lk rfl ?_; refine ⟨_, lk_, ?_⟩) | refine l_look (l' := _ :: _) rfl rfl ?_ | refine l_look (l' := []) rfl rfl ?_ | refine l_req rfl ?_ ?_)
      rfl
    | some u =>
      rw [hF] at c4 hM
      have c4 : AGood e.P 50 [.ro (.row 6 (scanM a).length (rT (scanM a)))] (.tup [.row 4 u.length (uT u), .bool true]) [.keep] := c4
      have c6 := copyDiskS a b rfl rfl (by omega) (by omega)
      simp only at hM
      by_cases hq : 10000 < topM a + 1
      · have k1 : decide (IntKind.i64.wrap (topM a + 1) > 10000) = true := by rw [w1]; exact decide_eq_true hq
        rw [if_pos hq] at hM
        subst hM
        refine agood eok (fn := Try.f59) kr_ de_ rfl kr_ ok_S5 ok_S5 ?_
        repeat' (first | refine o_cons ?_ | refine w_ok rfl ?_ | refine w_call rfl (c2) ?_ | refine w_call rfl (c3) ?_ | refine w_call rfl (c4) ?_ | refine w_call rfl (c5) ?_ | refine o_nil ?_ | refine q_then ?_ | refine sq ?_ | refine aw_seq ?_ | refine aw_reg ?_ | refine w_pT rfl ka rfl ?_ | refine w_pF rfl ka rfl ?_ | refine o_y rfl ka ?_ | refine o_nT rfl ka ?_ | refine o_nF rfl ka ?_ | refine o_nU rfl ?_ | refine aw_cT rfl ka ?_ | refine aw_cF rfl ka ?_ | refine o_gT rfl (fun h => ?_) (fun h => ?_) | refine o_gF rfl (fun h => ?_) (fun h => ?_) | refine aw_cond rfl (fun h => ?_) (fun h => ?_) | refine aw_block ?_ | refine aw_skip ?_ | refine aw_ret ?_ | refine q_ret ?_ | refine q_blockN ?_ | refine q_blockR ?_ | refine aw_exit ?_ | refine q_exit ?_ | refine q_blockE ?_ | refine q_blockX de_ ?_ | refine fin_r rfl ?_ | (refine w_req rfl ?_ ?_; · exact rq_S5) | (refine w_lk rfl ?_; refine ⟨_, lk_, ?_⟩) | refine w_look (l' := _ :: _) rfl rfl ?_ | refine w_look (l' := []) rfl rfl ?_ | refine w_req rfl ?_ ?_ | refine w_pick rfl (fun b => ?_) | refine l_call rfl (c2) ?_ | refine l_call rfl (c3) ?_ | refine l_call rfl (c4) ?_ | refine l_call rfl (c5) ?_ | refine aw_drw kr_ ?_ | refine d_cons ?_ | refine l_ok rfl ?_ | refine d_nil kr_ ?_ | refine d_y rfl ka ?_ | refine d_nT rfl ka ?_ | refine d_nF rfl ka ?_ | refine d_nU rfl ?_ | refine l_pT rfl ka rfl ?_ | refine l_pF rfl ka rfl ?_ | refine d_gT rfl (fun h => ?_) (fun h => ?_) | refine d_gF rfl (fun h => ?_) (fun h => ?_) | (refine l_req rfl ?_ ?_; · exact rq_S5) | (refine l_lk rfl ?_; refine ⟨_, lk_, ?_⟩) | refine l_look (l' := _ :: _) rfl rfl ?_ | refine l_look (l' := []) rfl rfl ?_ | refine l_req rfl ?_ ?_)
        rfl
      · have k1 : decide (IntKind.i64.wrap (topM a + 1) > 10000) = false := by rw [w1]; exact decide_eq_false hq
        rw [if_neg hq] at hM
        subst hM
        refine agood eok (fn := Try.f59) kr_ de_ rfl kr_ ok_S5 ok_S5 ?_
        repeat' (first | refine o_cons ?_ | refine w_ok rfl ?_ | refine w_call rfl (c2) ?_ | refine w_call rfl (c3) ?_ | refine w_call rfl (c4) ?_ | refine w_call rfl (c5) ?_ | refine w_call rfl (c6) ?_ | refine o_nil ?_ | refine q_then ?_ | refine sq ?_ | refine aw_seq ?_ | refine aw_reg ?_ | refine w_pT rfl ka rfl ?_ | refine w_pF rfl ka rfl ?_ | refine o_y rfl ka ?_ | refine o_nT rfl ka ?_ | refine o_nF rfl ka ?_ | refine o_nU rfl ?_ | refine aw_cT rfl ka ?_ | refine aw_cF rfl ka ?_ | refine o_gT rfl (fun h => ?_) (fun h => ?_) | refine o_gF rfl (fun h => ?_) (fun h => ?_) | refine aw_cond rfl (fun h => ?_) (fun h => ?_) | refine aw_block ?_ | refine aw_skip ?_ | refine aw_ret ?_ | refine q_ret ?_ | refine q_blockN ?_ | refine q_blockR ?_ | refine aw_exit ?_ | refine q_exit ?_ | refine q_blockE ?_ | refine q_blockX de_ ?_ | refine fin_r rfl ?_ | (refine w_req rfl ?_ ?_; · exact rq_S5) | (refine w_lk rfl ?_; refine ⟨_, lk_, ?_⟩) | refine w_look (l' := _ :: _) rfl rfl ?_ | refine w_look (l' := []) rfl rfl ?_ | refine w_req rfl ?_ ?_ | refine w_pick rfl (fun b => ?_) | refine l_call rfl (c2) ?_ | refine l_call rfl (c3) ?_ | refine l_call rfl (c4) ?_ | refine l_call rfl (c5) ?_ | refine l_call rfl (c6) ?_ | refine aw_drw kr_ ?_ | refine d_cons ?_ | refine l_ok rfl ?_ | refine d_nil kr_ ?_ | refine d_y rfl ka ?_ | refine d_nT rfl ka ?_ | refine d_nF rfl ka ?_ | refine d_nU rfl ?_ | refine l_pT rfl ka rfl ?_ | refine l_pF rfl ka rfl ?_ | refine d_gT rfl (fun h => ?_) (fun h => ?_) | refine d_gF rfl (fun h => ?_) (fun h => ?_) | (refine l_req rfl ?_ ?_; · exact rq_S5) | (refine l_lk rfl ?_; refine ⟨_, lk_, ?_⟩) | refine l_look (l' := _ :: _) rfl rfl ?_ | refine l_look (l' := []) rfl rfl ?_ | refine l_req rfl ?_ ?_)
        rw [w1]
        rfl
theorem upM_small (B : Nat) : ∀ l : List Upp, (∀ x ∈ l, x.d.length ≤ B) → (l.map upM).sum ≤ l.length * (3 + B) := by
  intro l
  induction l with
  | nil => intro _; simp
  | cons r l ih =>
    intro h
    have h1 := h r (by simp)
    have h2 := ih (fun x hx => h x (by simp [hx]))
    simp only [List.map_cons, List.sum_cons, List.length_cons, upM] at *
    rw [Nat.add_mul]
    omega
theorem open_sm {a b : List ByteArray} : ((openM a b).getD zeroSt).sm ∧ kSt 1 ((openM a b).getD zeroSt) ≤ 1000000000000 := by
  have hz : zeroSt.sm ∧ kSt 1 zeroSt ≤ 1000000000000 := ⟨⟨by decide, by decide, by decide, fun x hx => by cases hx⟩, by decide⟩
  unfold openM
  split
  · rename_i hd
    obtain ⟨d1, d2, d3, d4⟩ := dOk_sz hd
    split
    · exact hz
    · rename_i u hF
      obtain ⟨hul, hud⟩ := foldM_ok _ (B := 0) hF (Nat.zero_le _) (fun x hx => by cases hx)
      have hsl := scanM_len a
      have hsm := sumD_24 _ (scan_d (a := a))
      split
      · exact hz
      · have hd : ∀ x ∈ u, x.d.length ≤ 4800 := fun x hx => by have := hud x hx; omega
        refine ⟨⟨by simp only [Option.getD_some]; omega, by simp only [Option.getD_some]; omega, by simp only [Option.getD_some]; omega, fun x hx => by have := hd x hx; omega⟩, ?_⟩
        have := upM_small 4800 u hd
        simp only [Option.getD_some, kSt, kAll]
        omega
  · exact hz
theorem ok_d {s : St} (h : okM s = true) : dOk s.a s.b = true := by
  unfold okM at h
  rw [Bool.and_eq_true, Bool.and_eq_true] at h
  exact h.1.2
theorem sync_sm {s : St} (h : s.sm) (hk : kSt 1 s ≤ 1000000000000) : (syncM s).sm ∧ kSt 1 (syncM s) ≤ 1000000000000 := by
  unfold syncM
  split
  · rename_i hc
    have hd := (dOk_sz (ok_d hc)).1
    refine ⟨⟨h.a, h.a, h.u, h.d⟩, ?_⟩
    have ha := h.a
    unfold kSt kAll at *
    simp only
    omega
  · exact ⟨h, hk⟩
end Go.Proofs.Ytbkpmljdmlhmhaa
namespace Go.Proofs.Ytbkpmljdmlhmhaa
open Go Go.AM Ty
set_option maxRecDepth 100000
set_option maxHeartbeats 4000000
set_option linter.unusedVariables false
set_option linter.unusedSimpArgs false
attribute [local irreducible] aw aops aopsD wpo wpoL condW guardW thenQ blockQ finQ Le AGood
theorem rq_S6 {p : Prop} (h : p := by first | assumption | exact uT_plain _ | exact rT_plain _ | exact sT_plain _ | exact rq_) : p := h
theorem lk_S6 {p : Prop} (h : p := by first | exact bT_app _ _ | exact mp_el (f := Tr.str) emp side_ | exact mp_up (f := Tr.str) side_ | exact uT_el side_ | exact lk_) : p := h
theorem ok_S6 {p : Prop} (h : p := by first | (simp [Tr.okR, Tr.okRL, Tr.plainL, Tr.plain, cells1, Tr.cellB, PB.okRL, PB.okR, bT_plain, sT_plain, oT_plain, nT_plain, uT_plain, sT_plain, rT_plain, up_pl]; done) | exact ok_) : p := h
attribute [local irreducible] getRecM scanM foldM topM dOk okM putS
abbrev stOs (s : St) : List PA := [.own (.row 1 s.a.length (sT s.a)), .own (.row 1 s.b.length (sT s.b)), .ro (.int .i64 s.e), .ro (.int .i64 s.n), .own (.row 4 s.u.length (uT s.u))]
abbrev stRs (s : St) : List PA := [.ro (.row 1 s.a.length (sT s.a)), .ro (.row 1 s.b.length (sT s.b)), .ro (.int .i64 s.e), .ro (.int .i64 s.n), .ro (.row 4 s.u.length (uT s.u))]
abbrev stTs (s : St) : List Tr := [.row 1 s.a.length (sT s.a), .row 1 s.b.length (sT s.b), .int .i64 s.e, .int .i64 s.n, .row 4 s.u.length (uT s.u)]
abbrev stTags (s : St) : List Tr := [.tag 0, .tag 1, .int .i64 s.e, .int .i64 s.n, .tag 2]
theorem leftI (s : St) (h : s.sm) (hn : 0 ≤ s.n ∧ s.n ≤ 1048576) : AGood e.P 141 [.box 56 (stRs s)] (.int .i64 ((s.a.length : Int) - s.n)) [.box (stTags s)] := by
  have ha := h.a
  have w1 : IntKind.i64.wrap ((s.a.length : Int) - s.n) = (s.a.length : Int) - s.n := wrap64 (by omega) (by omega)
  refine agood eok (fn := Try.f141) kr_ de_ rfl kr_ ok_S6 ok_S6 ?_
  repeat' (first | refine o_cons ?_ | refine w_ok rfl ?_ | refine o_nil ?_ | refine q_then ?_ | refine sq ?_ | refine aw_seq ?_ | refine aw_reg ?_ | refine w_pT rfl ka rfl ?_ | refine w_pF rfl ka rfl ?_ | refine o_y rfl ka ?_ | refine o_nT rfl ka ?_ | refine o_nF rfl ka ?_ | refine o_nU rfl ?_ | refine aw_cT rfl ka ?_ | refine aw_cF rfl ka ?_ | refine o_gT rfl (fun h => ?_) (fun h => ?_) | refine o_gF rfl (fun h => ?_) (fun h => ?_) | refine aw_cond rfl (fun h => ?_) (fun h => ?_) | refine aw_block ?_ | refine aw_skip ?_ | refine aw_ret ?_ | refine q_ret ?_ | refine q_blockN ?_ | refine q_blockR ?_ | refine aw_exit ?_ | refine q_exit ?_ | refine q_blockE ?_ | refine q_blockX de_ ?_ | refine fin_r rfl ?_ | (refine w_req rfl ?_ ?_; · exact rq_S6) | (refine w_lk rfl ?_; refine ⟨_, lk_S6, ?_⟩) | refine w_look (l' := _ :: _) rfl rfl ?_ | refine w_look (l' := []) rfl rfl ?_ | refine w_req rfl ?_ ?_ | refine w_pick rfl (fun b => ?_) | refine aw_drw kr_ ?_ | refine d_cons ?_ | refine l_ok rfl ?_ | refine d_nil kr_ ?_ | refine d_y rfl ka ?_ | refine d_nT rfl ka ?_ | refine d_nF rfl ka ?_ | refine d_nU rfl ?_ | refine l_pT rfl ka rfl ?_ | refine l_pF rfl ka rfl ?_ | refine d_gT rfl (fun h => ?_) (fun h => ?_) | refine d_gF rfl (fun h => ?_) (fun h => ?_) | (refine l_req rfl ?_ ?_; · exact rq_S6) | (refine l_lk rfl ?_; refine ⟨_, lk_S6, ?_⟩) | refine l_look (l' := _ :: _) rfl rfl ?_ | refine l_look (l' := []) rfl rfl ?_ | refine l_req rfl ?_ ?_)
  rw [w1]
theorem leftS (s : St) (h : s.sm) (hn : 0 ≤ s.n ∧ s.n ≤ 1048576) : AGood e.P 113 [stR s] (.int .i64 ((s.a.length : Int) - s.n)) [keep5] := by
  have ha := h.a
  have w1 : IntKind.i64.wrap ((s.a.length : Int) - s.n) = (s.a.length : Int) - s.n := wrap64 (by omega) (by omega)
  refine agood eok (fn := Try.f113) kr_ de_ rfl kr_ ok_S6 ok_S6 ?_
  repeat' (first | refine o_cons ?_ | refine w_ok rfl ?_ | refine o_nil ?_ | refine q_then ?_ | refine sq ?_ | refine aw_seq ?_ | refine aw_reg ?_ | refine w_pT rfl ka rfl ?_ | refine w_pF rfl ka rfl ?_ | refine o_y rfl ka ?_ | refine o_nT rfl ka ?_ | refine o_nF rfl ka ?_ | refine o_nU rfl ?_ | refine aw_cT rfl ka ?_ | refine aw_cF rfl ka ?_ | refine o_gT rfl (fun h => ?_) (fun h => ?_) | refine o_gF rfl (fun h => ?_) (fun h => ?_) | refine aw_cond rfl (fun h => ?_) (fun h => ?_) | refine aw_block ?_ | refine aw_skip ?_ | refine aw_ret ?_ | refine q_ret ?_ | refine q_blockN ?_ | refine q_blockR ?_ | refine aw_exit ?_ | refine q_exit ?_ | refine q_blockE ?_ | refine q_blockX de_ ?_ | refine fin_r rfl ?_ | (refine w_req rfl ?_ ?_; · exact rq_S6) | (refine w_lk rfl ?_; refine ⟨_, lk_S6, ?_⟩) | refine w_look (l' := _ :: _) rfl rfl ?_ | refine w_look (l' := []) rfl rfl ?_ | refine w_req rfl ?_ ?_ | refine w_pick rfl (fun b => ?_) | refine aw_drw kr_ ?_ | refine d_cons ?_ | refine l_ok rfl ?_ | refine d_nil kr_ ?_ | refine d_y rfl ka ?_ | refine d_nT rfl ka ?_ | refine d_nF rfl ka ?_ | refine d_nU rfl ?_ | refine l_pT rfl ka rfl ?_ | refine l_pF rfl ka rfl ?_ | refine d_gT rfl (fun h => ?_) (fun h => ?_) | refine d_gF rfl (fun h => ?_) (fun h => ?_) | (refine l_req rfl ?_ ?_; · exact rq_S6) | (refine l_lk rfl ?_; refine ⟨_, lk_S6, ?_⟩) | refine l_look (l' := _ :: _) rfl rfl ?_ | refine l_look (l' := []) rfl rfl ?_ | refine l_req rfl ?_ ?_)
  rw [w1]
theorem findI0 (s : St) (id : ByteArray) (h : s.sm) (hh : hasM id s.u = false) : AGood e.P 140 [.box 56 (stRs s), .ro (.str id)] (.tup [.agg [.str emp, .int .i64 0, .row 1 0 [], .bool false], .bool false]) [.box (stTags s), .keep] := by
  have hu := h.u
  have c1 := upAtI s.u rfl id (by omega)
  rw [hh] at c1
  refine agood eok (fn := Try.f140) kr_ de_ rfl kr_ ok_S6 ok_S6 ?_
  repeat' (first | refine o_cons ?_ | refine w_ok rfl ?_ | refine w_call rfl (c1) ?_ | refine o_nil ?_ | refine q_then ?_ | refine sq ?_ | refine aw_seq ?_ | refine aw_reg ?_ | refine w_pT rfl ka rfl ?_ | refine w_pF rfl ka rfl ?_ | refine o_y rfl ka ?_ | refine o_nT rfl ka ?_ | refine o_nF rfl ka ?_ | refine o_nU rfl ?_ | refine aw_cT rfl ka ?_ | refine aw_cF rfl ka ?_ | refine o_gT rfl (fun h => ?_) (fun h => ?_) | refine o_gF rfl (fun h => ?_) (fun h => ?_) | refine aw_cond rfl (fun h => ?_) (fun h => ?_) | refine aw_block ?_ | refine aw_skip ?_ | refine aw_ret ?_ | refine q_ret ?_ | refine q_blockN ?_ | refine q_blockR ?_ | refine aw_exit ?_ | refine q_exit ?_ | refine q_blockE ?_ | refine q_blockX de_ ?_ | refine fin_r rfl ?_ | (refine w_req rfl ?_ ?_; · exact rq_S6) | (refine w_lk rfl ?_; refine ⟨_, lk_S6, ?_⟩) | refine w_look (l' := _ :: _) rfl rfl ?_ | refine w_look (l' := []) rfl rfl ?_ | refine w_req rfl ?_ ?_ | refine w_pick rfl (fun b => ?_) | refine l_call rfl (c1) ?_ | refine aw_drw kr_ ?_ | refine d_cons ?_ | refine l_ok rfl ?_ | refine d_nil kr_ ?_ | refine d_y rfl ka ?_ | refine d_nT rfl ka ?_ | refine d_nF rfl ka ?_ | refine d_nU rfl ?_ | refine l_pT rfl ka rfl ?_ | refine l_pF rfl ka rfl ?_ | refine d_gT rfl (fun h => ?_) (fun h => ?_) | refine d_gF rfl (fun h => ?_) (fun h => ?_) | (refine l_req rfl ?_ ?_; · exact rq_S6) | (refine l_lk rfl ?_; refine ⟨_, lk_S6, ?_⟩) | refine l_look (l' := _ :: _) rfl rfl ?_ | refine l_look (l' := []) rfl rfl ?_ | refine l_req rfl ?_ ?_)
  rfl
theorem findI1 (s : St) (id : ByteArray) (h : s.sm) (hh : hasM id s.u = true) : ∃ x : Upp, AGood e.P 140 [.box 56 (stRs s), .ro (.str id)] (.tup [.agg [.str x.s, .int .i64 x.w, .hole, .bool x.f], .bool true]) [.box (stTags s), .keep] := by
  have hu := h.u
  have c1 := upAtI s.u rfl id (by omega)
  rw [hh] at c1
  have hil : posM id s.u < s.u.length := by
    unfold hasM at hh
    rw [Bool.and_eq_true, decide_eq_true_eq] at hh
    exact hh.1
  refine ⟨s.u.getD (posM id s.u) zeroU, ?_⟩
  generalize posM id s.u = i at c1 hil ⊢
  have g1 : 0 ≤ (i : Int) ∧ (i : Int) < (s.u.length : Int) := by omega
  refine agood eok (fn := Try.f140) kr_ de_ rfl kr_ ok_S6 ok_S6 ?_
  repeat' (first | refine o_cons ?_ | refine w_ok rfl ?_ | refine w_call rfl (c1) ?_ | refine o_nil ?_ | refine q_then ?_ | refine sq ?_ | refine aw_seq ?_ | refine aw_reg ?_ | refine w_pT rfl ka rfl ?_ | refine w_pF rfl ka rfl ?_ | refine o_y rfl ka ?_ | refine o_nT rfl ka ?_ | refine o_nF rfl ka ?_ | refine o_nU rfl ?_ | refine aw_cT rfl ka ?_ | refine aw_cF rfl ka ?_ | refine o_gT rfl (fun h => ?_) (fun h => ?_) | refine o_gF rfl (fun h => ?_) (fun h => ?_) | refine aw_cond rfl (fun h => ?_) (fun h => ?_) | refine aw_block ?_ | refine aw_skip ?_ | refine aw_ret ?_ | refine q_ret ?_ | refine q_blockN ?_ | refine q_blockR ?_ | refine aw_exit ?_ | refine q_exit ?_ | refine q_blockE ?_ | refine q_blockX de_ ?_ | refine fin_r rfl ?_ | (refine w_req rfl ?_ ?_; · exact rq_S6) | (refine w_lk rfl ?_; refine ⟨_, lk_S6, ?_⟩) | refine w_look (l' := _ :: _) rfl rfl ?_ | refine w_look (l' := []) rfl rfl ?_ | refine w_req rfl ?_ ?_ | refine w_pick rfl (fun b => ?_) | refine l_call rfl (c1) ?_ | refine aw_drw kr_ ?_ | refine d_cons ?_ | refine l_ok rfl ?_ | refine d_nil kr_ ?_ | refine d_y rfl ka ?_ | refine d_nT rfl ka ?_ | refine d_nF rfl ka ?_ | refine d_nU rfl ?_ | refine l_pT rfl ka rfl ?_ | refine l_pF rfl ka rfl ?_ | refine d_gT rfl (fun h => ?_) (fun h => ?_) | refine d_gF rfl (fun h => ?_) (fun h => ?_) | (refine l_req rfl ?_ ?_; · exact rq_S6) | (refine l_lk rfl ?_; refine ⟨_, lk_S6, ?_⟩) | refine l_look (l' := _ :: _) rfl rfl ?_ | refine l_look (l' := []) rfl rfl ?_ | refine l_req rfl ?_ ?_)
  rfl
theorem writeI (s : St) {l' : List Upp} (k n : Int) (id : ByteArray) (d : List UInt8) {c : Nat} (hc : c = d.length) (h : s.sm) (hn : 0 ≤ s.n ∧ s.n < s.a.length) (hul : s.u.length ≤ 10) (hid : id.size ≤ 1048576) (hd : d.length ≤ 1048576)
    (hf : foldOne s.u ⟨s.e, s.n, k, id, n, d⟩ = some l') : AGood e.P 142 [.box 56 (stOs s), .ro (.int .i64 k), .ro (.str id), .ro (.int .i64 n), .ro (.row 1 c (bT d))] (.tup []) [.box (stTs ⟨s.a.set s.n.toNat (putS ⟨s.e, s.n, k, id, n, d⟩), s.b, s.e, s.n + 1, l'⟩), .keep, .keep, .keep, .keep] := by
  subst hc
  have ha := h.a
  have c1 := putRec ⟨s.e, s.n, k, id, n, d⟩ rfl hid hd
  have c2 := foldIn s.u l' rfl ⟨s.e, s.n, k, id, n, d⟩ rfl hul h.d hd hf
  have w1 : IntKind.i64.wrap (s.n + 1) = s.n + 1 := wrap64 (by omega) (by omega)
  generalize hA : s.a.set s.n.toNat (putS ⟨s.e, s.n, k, id, n, d⟩) = A'
  have hl : s.a.length = A'.length := by rw [← hA, List.length_set]
  refine agood eok (fn := Try.f142) kr_ de_ rfl kr_ ok_S6 ok_S6 ?_
  repeat' (first | refine o_cons ?_ | refine w_ok rfl ?_ | refine w_call rfl (c1) ?_ | refine w_call rfl (c2) ?_ | refine o_nil ?_ | refine q_then ?_ | refine sq ?_ | refine aw_seq ?_ | refine aw_reg ?_ | refine w_pT rfl ka rfl ?_ | refine w_pF rfl ka rfl ?_ | refine o_y rfl ka ?_ | refine o_nT rfl ka ?_ | refine o_nF rfl ka ?_ | refine o_nU rfl ?_ | refine aw_cT rfl ka ?_ | refine aw_cF rfl ka ?_ | refine o_gT rfl (fun h => ?_) (fun h => ?_) | refine o_gF rfl (fun h => ?_) (fun h => ?_) | refine aw_cond rfl (fun h => ?_) (fun h => ?_) | refine aw_block ?_ | refine aw_skip ?_ | refine aw_ret ?_ | refine q_ret ?_ | refine q_blockN ?_ | refine q_blockR ?_ | refine aw_exit ?_ | refine q_exit ?_ | refine q_blockE ?_ | refine q_blockX de_ ?_ | refine fin_r rfl ?_ | (refine w_req rfl ?_ ?_; · exact rq_S6) | (refine w_lk rfl ?_; refine ⟨_, lk_S6, ?_⟩) | refine w_look (l' := _ :: _) rfl rfl ?_ | refine w_look (l' := []) rfl rfl ?_ | refine w_req rfl ?_ ?_ | refine w_pick rfl (fun b => ?_) | refine l_call rfl (c1) ?_ | refine l_call rfl (c2) ?_ | refine aw_drw kr_ ?_ | refine d_cons ?_ | refine l_ok rfl ?_ | refine d_nil kr_ ?_ | refine d_y rfl ka ?_ | refine d_nT rfl ka ?_ | refine d_nF rfl ka ?_ | refine d_nU rfl ?_ | refine l_pT rfl ka rfl ?_ | refine l_pF rfl ka rfl ?_ | refine d_gT rfl (fun h => ?_) (fun h => ?_) | refine d_gF rfl (fun h => ?_) (fun h => ?_) | (refine l_req rfl ?_ ?_; · exact rq_S6) | (refine l_lk rfl ?_; refine ⟨_, lk_S6, ?_⟩) | refine l_look (l' := _ :: _) rfl rfl ?_ | refine l_look (l' := []) rfl rfl ?_ | refine l_req rfl ?_ ?_)
  refine fin_n rfl ?_
  rw [w1, hA, hl]
theorem writeS (s : St) {l' : List Upp} (r : Rc) {c : Nat} (hc : c = r.d.length) (h : s.sm) (hn : 0 ≤ s.n ∧ s.n < s.a.length) (hul : s.u.length ≤ 10) (hid : r.s.size ≤ 1048576) (hd : r.d.length ≤ 1048576)
    (hok : recOkM ⟨s.e, s.n, r.k, r.s, r.n, r.d⟩ = true) (hf : oneM s.u ⟨s.e, s.n, r.k, r.s, r.n, r.d⟩ = some l') : AGood e.P 114 [.box 56 (stOs s), r.pa c] (.tup []) [.box (stTs ⟨s.a.set s.n.toNat (putS ⟨s.e, s.n, r.k, r.s, r.n, r.d⟩), s.b, s.e, s.n + 1, l'⟩), keeps] := by
  subst hc
  have ha := h.a
  have c1 := l13Put ⟨s.e, s.n, r.k, r.s, r.n, r.d⟩ rfl hid hd hok
  have c2 := (l14One s.u rfl ⟨s.e, s.n, r.k, r.s, r.n, r.d⟩ rfl (by omega) h.d hd).1 l' hf
  have w1 : IntKind.i64.wrap (s.n + 1) = s.n + 1 := wrap64 (by omega) (by omega)
  generalize hA : s.a.set s.n.toNat (putS ⟨s.e, s.n, r.k, r.s, r.n, r.d⟩) = A'
  have hl : s.a.length = A'.length := by rw [← hA, List.length_set]
  refine agood eok (fn := Try.f114) kr_ de_ rfl kr_ ok_S6 ok_S6 ?_
  repeat' (first | refine o_cons ?_ | refine w_ok rfl ?_ | refine w_call rfl (c1) ?_ | refine w_call rfl (c2) ?_ | refine o_nil ?_ | refine q_then ?_ | refine sq ?_ | refine aw_seq ?_ | refine aw_reg ?_ | refine w_pT rfl ka rfl ?_ | refine w_pF rfl ka rfl ?_ | refine o_y rfl ka ?_ | refine o_nT rfl ka ?_ | refine o_nF rfl ka ?_ | refine o_nU rfl ?_ | refine aw_cT rfl ka ?_ | refine aw_cF rfl ka ?_ | refine o_gT rfl (fun h => ?_) (fun h => ?_) | refine o_gF rfl (fun h => ?_) (fun h => ?_) | refine aw_cond rfl (fun h => ?_) (fun h => ?_) | refine aw_block ?_ | refine aw_skip ?_ | refine aw_ret ?_ | refine q_ret ?_ | refine q_blockN ?_ | refine q_blockR ?_ | refine aw_exit ?_ | refine q_exit ?_ | refine q_blockE ?_ | refine q_blockX de_ ?_ | refine fin_r rfl ?_ | (refine w_req rfl ?_ ?_; · exact rq_S6) | (refine w_lk rfl ?_; refine ⟨_, lk_S6, ?_⟩) | refine w_look (l' := _ :: _) rfl rfl ?_ | refine w_look (l' := []) rfl rfl ?_ | refine w_req rfl ?_ ?_ | refine w_pick rfl (fun b => ?_) | refine l_call rfl (c1) ?_ | refine l_call rfl (c2) ?_ | refine aw_drw kr_ ?_ | refine d_cons ?_ | refine l_ok rfl ?_ | refine d_nil kr_ ?_ | refine d_y rfl ka ?_ | refine d_nT rfl ka ?_ | refine d_nF rfl ka ?_ | refine d_nU rfl ?_ | refine l_pT rfl ka rfl ?_ | refine l_pF rfl ka rfl ?_ | refine d_gT rfl (fun h => ?_) (fun h => ?_) | refine d_gF rfl (fun h => ?_) (fun h => ?_) | (refine l_req rfl ?_ ?_; · exact rq_S6) | (refine l_lk rfl ?_; refine ⟨_, lk_S6, ?_⟩) | refine l_look (l' := _ :: _) rfl rfl ?_ | refine l_look (l' := []) rfl rfl ?_ | refine l_req rfl ?_ ?_)
  refine fin_n rfl ?_
  rw [w1, hA, hl]
end Go.Proofs.Ytbkpmljdmlhmhaa
namespace Go.Proofs.Ytbkpmljdmlhmhaa
open Go Go.AM Ty
set_option maxHeartbeats 1000000
set_option linter.unusedVariables false
set_option linter.unusedSimpArgs false
theorem callF_mono {P : Program} {f : Nat} {args : Array Value} {w : World} {R R' : Ending → World → Prop} (h : CallF P f args w R) (hr : ∀ e w', R e w' → R' e w') : CallF P f args w R' := by
  unfold CallF at *
  cases hq : (callFunc f args).run P w with
  | ok r w' =>
    rw [hq] at h
    cases r with
    | value v => exact hr _ _ h
    | enter g a => exact Calls.mono h hr
    | _ => exact h.elim
  | _ => rw [hq] at h; exact h.elim
/-- arguments that own nothing and are no rows -/
def Bare (rest : List PA) : Prop := ∀ h S vs F T, PAokL h S rest vs F T → F = [] ∧ T = [] ∧ ∀ h' S', PAokL h' S' rest vs [] []
theorem bare_nil : Bare [] := fun h S vs F T H => by
  simp only [PAokL] at H ⊢
  exact ⟨H.2.1, H.2.2, fun _ _ => ⟨H.1, trivial, trivial⟩⟩
theorem bare_str (s : ByteArray) : Bare [.ro (.str s)] := fun h S vs F T H => by
  simp only [PAokL, PAok, Rd, Tr.isRow] at H ⊢
  obtain ⟨v, us, F1, F2, T1, T2, rfl, ⟨h1, rfl, h3⟩, ⟨rfl, rfl, rfl⟩, rfl, rfl⟩ := H
  simp only [Bool.false_eq_true, if_false] at h3
  subst h3
  exact ⟨rfl, rfl, fun _ _ => ⟨v, [], [], [], [], [], rfl, ⟨h1, rfl, by simp⟩, ⟨rfl, rfl, rfl⟩, rfl, rfl⟩⟩
theorem keeps_ok {h : Heap} {T : List Value} : ∀ {rest : List PA} {vs : List Value} {F : List Nat}, PBokL h T (rest.map fun _ => PB.keep) vs F → F = []
  | [], vs, F, H => by simp only [List.map_nil, PBokL] at H; exact H.2
  | p :: ps, vs, F, H => by
    simp only [List.map_cons, PBokL, PBok] at H
    obtain ⟨v, us, F1, F2, rfl, rfl, h2, rfl⟩ := H
    rw [keeps_ok h2]
theorem keeps_mk {h h' : Heap} {T T' : List Value} : ∀ {rest : List PA} {vs : List Value} {F : List Nat}, PBokL h T (rest.map fun _ => PB.keep) vs F → PBokL h' T' (rest.map fun _ => PB.keep) vs []
  | [], vs, F, H => by simp only [List.map_nil, PBokL] at H ⊢; exact ⟨H.1, trivial⟩
  | p :: ps, vs, F, H => by
    simp only [List.map_cons, PBokL, PBok] at H ⊢
    obtain ⟨v, us, F1, F2, rfl, rfl, h2, rfl⟩ := H
    exact ⟨v, us, [], [], rfl, rfl, keeps_mk h2, rfl⟩
/-- what reads a store's rows alone may be handed one's own: they stay -/
theorem ro_own {P : Program} {f t : Nat} {s : St} {rest : List PA} {res : Tr} (hb : Bare rest) (hres : ∀ h T v F, Ow h T res v F → Ow h [] res v F)
    (H : AGood P f (.box t (stRs s) :: rest) res (.box (stTags s) :: rest.map fun _ => PB.keep)) : AGood P f (.box t (stOs s) :: rest) res (.box (stTs s) :: rest.map fun _ => PB.keep) := by
  unfold AGood at *
  obtain ⟨h1, h2, h3⟩ := H
  have hk : ∀ rest : List PA, PB.okRL (rest.map fun _ => PB.keep) := by
    intro rest
    induction rest with
    | nil => simp [PB.okRL]
    | cons p ps ih => simp only [List.map_cons, PB.okRL, PB.okR]; exact ⟨trivial, ih⟩
  refine ⟨h1, ?_, fun w vals F T hpa hnd ht => ?_⟩
  · simp only [PB.okRL, PB.okR, Tr.okRL, Tr.okR]
    exact ⟨⟨sT_plain _, sT_plain _, trivial, trivial, uT_plain _, trivial⟩, hk rest⟩
  simp only [PAokL] at hpa
  obtain ⟨v, us, F1, F2, T1, T2, rfl, hbox, hrest, rfl, rfl⟩ := hpa
  simp only [PAok] at hbox
  obtain ⟨g, cur, e, fr, G, rfl, hg, hfr, hcells, hone, rfl⟩ := hbox
  obtain ⟨rfl, rfl, hrest'⟩ := hb _ _ _ _ _ hrest
  simp only [PAokL, PAok, Rd] at hcells
  obtain ⟨va, _, Fa, _, Ta, _, hcur, ⟨_, oa, rfl⟩, ⟨vb, _, Fb, _, Tb, _, rfl, ⟨_, ob, rfl⟩, ⟨ve, _, Fe, _, Te, _, rfl, ⟨rfl, rfl, hTe⟩, ⟨vn, _, Fn, _, Tn, _, rfl, ⟨rfl, rfl, hTn⟩, ⟨vu, _, Fu, _, Tu, _, rfl, ⟨_, ou, rfl⟩, ⟨rfl, rfl, rfl⟩, rfl, rfl⟩, rfl, rfl⟩, rfl, rfl⟩, rfl, rfl⟩, rfl, rfl⟩ := hcells
  simp only [Tr.isRow, Bool.false_eq_true, if_false] at hTe hTn
  subst hTe; subst hTn
  simp only [List.append_nil, List.nil_append] at hnd ht ⊢
  have ngG := (List.nodup_cons.1 hnd).1
  have hone' : ∀ y, y ∈ [va, vb, vu] → y.oneCell' = true := fun y hy => hone y (by
    rw [hcur]
    simp only [List.mem_cons, List.not_mem_nil, or_false] at hy ⊢
    rcases hy with h | h | h <;> simp [h])
  have hlt : ∀ k, k ∈ Fa ++ (Fb ++ Fu) → k < w.heap.size := fun k hk => by
    rcases List.mem_append.1 hk with h | h
    · exact Ow.lt oa k h
    · rcases List.mem_append.1 h with h | h
      · exact Ow.lt ob k h
      · exact Ow.lt ou k h
  have hS : ∀ k, k ∈ Fa ++ (Fb ++ Fu) → (k ∉ [g] ∧ k < w.heap.size) ∧ w.heap[k]? = w.heap[k]? := fun k hk => ⟨⟨fun h => ngG (by rw [List.mem_singleton] at h; rw [← h]; exact hk), hlt k hk⟩, rfl⟩
  have hpa' : PAokL w.heap (fun k => k ∉ [g] ∧ k < w.heap.size) (.box t (stRs s) :: rest) (.pointer (some ⟨g, 0, none⟩) :: us) [g] [va, vb, vu] := by
    simp only [PAokL]
    refine ⟨_, us, [g], [], [va, vb, vu], [], rfl, ?_, hrest' _ _, rfl, rfl⟩
    simp only [PAok]
    refine ⟨g, cur, e, fr, [], rfl, hg, hfr, ?_, hone, rfl⟩
    rw [hcur]
    simp only [PAokL, PAok, Tr.isRow, if_true, Bool.false_eq_true, if_false]
    refine ⟨va, _, [], [], [va], [vb, vu], rfl, ⟨Rd.frame _ (Ow.rd oa (by simpa only [Tr.plain] using sT_plain _)) (fun k hk => hS k (by simp [hk])), rfl, rfl⟩, ⟨vb, _, [], [], [vb], [vu], rfl, ⟨Rd.frame _ (Ow.rd ob (by simpa only [Tr.plain] using sT_plain _)) (fun k hk => hS k (by simp [hk])), rfl, rfl⟩, ⟨_, _, [], [], [], [vu], rfl, ⟨by simp only [Rd], rfl, rfl⟩, ⟨_, _, [], [], [], [vu], rfl, ⟨by simp only [Rd], rfl, rfl⟩, ⟨vu, _, [], [], [vu], [], rfl, ⟨Rd.frame _ (Ow.rd ou (by simpa only [Tr.plain] using uT_plain _)) (fun k hk => hS k (by simp [hk])), rfl, rfl⟩, ⟨rfl, rfl, rfl⟩, rfl, rfl⟩, rfl, rfl⟩, rfl, rfl⟩, rfl, rfl⟩, rfl, rfl⟩
  refine callF_mono (h3 w _ [g] [va, vb, vu] hpa' (by simp) hone') ?_
  rintro e0 w' ⟨v, G1, G2, he, ho, hbk, hnd', hf⟩
  simp only [PBokL, PBok] at hbk
  obtain ⟨v0, us', H1, H2, hv, ⟨g', cur', e', fr', G', hg', hh', hfr', hc1, hcs, rfl⟩, hks, rfl⟩ := hbk
  injection hv with hv1 hv2
  subst hv2
  rw [← hv1] at hg'
  injection hg' with hg'
  injection hg' with hg'
  injection hg' with hg'
  subst hg'
  have hH2 := keeps_ok hks
  subst hH2
  simp only [OwL, Ow] at hcs
  obtain ⟨xa, _, Xa, _, hcur', ⟨ha, rfl⟩, ⟨xb, _, Xb, _, rfl, ⟨hb', rfl⟩, ⟨xe, _, Xe, _, rfl, ⟨rfl, rfl⟩, ⟨xn, _, Xn, _, rfl, ⟨rfl, rfl⟩, ⟨xu, _, Xu, _, rfl, ⟨hu, rfl⟩, ⟨rfl, rfl⟩, rfl⟩, rfl⟩, rfl⟩, rfl⟩, rfl⟩ := hcs
  simp only [List.getElem?_cons_zero, List.getElem?_cons_succ, Option.some.injEq] at ha hb' hu
  subst ha; subst hb'; subst hu
  simp only [List.append_nil, List.nil_append] at hnd' hf
  have hsame : ∀ k, k ∈ Fa ++ (Fb ++ Fu) → w'.heap[k]? = w.heap[k]? := fun k hk => hf.same k (hlt k hk) (hS k hk).1.1
  have hG1 : ∀ k, k ∈ G1 → w.heap.size ≤ k := fun k hk => by
    rcases hf.own k (by simp [hk]) with h | h
    · exfalso
      rw [List.mem_singleton] at h
      exact (List.nodup_append.1 hnd').2.2 k hk g (by simp) h
    · exact h
  refine ⟨v, G1, g :: (Fa ++ (Fb ++ Fu)), he, hres _ _ _ _ ho, ?_, ?_, ⟨hf.os, hf.tape, hf.output, hf.size, fun k hk hkn => hf.same k hk (fun h => hkn (by rw [List.mem_singleton] at h; simp [h])), fun k hk => ?_⟩⟩
  · simp only [PBokL, PBok]
    refine ⟨_, us, g :: (Fa ++ (Fb ++ Fu)), [], rfl, ⟨g, cur', e', fr', Fa ++ (Fb ++ Fu), rfl, hh', hfr', by simp [cells1, Tr.cellB], ?_, rfl⟩, keeps_mk hks, by simp⟩
    rw [hcur']
    simp only [OwL]
    refine ⟨va, _, Fa, Fb ++ Fu, rfl, Ow.frame _ oa (fun k hk => hsame k (by simp [hk])), ⟨vb, _, Fb, Fu, rfl, Ow.frame _ ob (fun k hk => hsame k (by simp [hk])), ⟨_, _, [], Fu, rfl, by simp [Ow], ⟨_, _, [], Fu, rfl, by simp [Ow], ⟨vu, _, Fu, [], rfl, Ow.frame _ ou (fun k hk => hsame k (by simp [hk])), ⟨rfl, rfl⟩, by simp⟩, by simp⟩, by simp⟩, rfl⟩, rfl⟩
  · refine List.nodup_append.2 ⟨(List.nodup_append.1 hnd').1, hnd, fun a ha b hb2 hab => ?_⟩
    subst hab
    have h5 := hG1 a ha
    rcases List.mem_cons.1 hb2 with h | h
    · have := lt_of_get hg
      omega
    · have := hlt a h
      omega
  · rcases List.mem_append.1 hk with h | h
    · exact .inr (hG1 k h)
    · exact .inl h
theorem leftO (s : St) (h : s.sm) (hn : 0 ≤ s.n ∧ s.n ≤ 1048576) : AGood e.P 141 [.box 56 (stOs s)] (.int .i64 ((s.a.length : Int) - s.n)) [.box (stTs s)] :=
  ro_own (rest := []) bare_nil (fun _ _ _ _ h => by simpa only [Ow] using h) (leftI s h hn)
theorem findO0 (s : St) (id : ByteArray) (h : s.sm) (hh : hasM id s.u = false) : AGood e.P 140 [.box 56 (stOs s), .ro (.str id)] (.tup [.agg [.str emp, .int .i64 0, .row 1 0 [], .bool false], .bool false]) [.box (stTs s), .keep] :=
  ro_own (rest := [.ro (.str id)]) (bare_str id) (fun _ _ _ _ h => by simpa only [Ow, OwL] using h) (findI0 s id h hh)
theorem findO1 (s : St) (id : ByteArray) (h : s.sm) (hh : hasM id s.u = true) : ∃ x : Upp, AGood e.P 140 [.box 56 (stOs s), .ro (.str id)] (.tup [.agg [.str x.s, .int .i64 x.w, .hole, .bool x.f], .bool true]) [.box (stTs s), .keep] := by
  obtain ⟨x, hx⟩ := findI1 s id h hh
  exact ⟨x, ro_own (rest := [.ro (.str id)]) (bare_str id) (fun _ _ _ _ h => by simpa only [Ow, OwL] using h) hx⟩
end Go.Proofs.Ytbkpmljdmlhmhaa
namespace Go.Proofs.Ytbkpmljdmlhmhaa
open Go Go.AM Ty
set_option maxRecDepth 100000
set_option maxHeartbeats 4000000
set_option linter.unusedVariables false
set_option linter.unusedSimpArgs false
attribute [local irreducible] aw aops aopsD wpo wpoL condW guardW thenQ blockQ finQ Le AGood
theorem rq_S7 {p : Prop} (h : p := by first | assumption | exact uT_plain _ | exact sT_plain _ | exact rq_) : p := h
theorem ok_S7 {p : Prop} (h : p := by first | (simp [Tr.okR, Tr.okRL, Tr.plainL, Tr.plain, cells1, Tr.cellB, PB.okRL, PB.okR, bT_plain, sT_plain, oT_plain, nT_plain, uT_plain, sT_plain]; done) | exact ok_) : p := h
theorem same_get {a b : List Upp} (h : sameUs a b = true) : a.length = b.length ∧ ∀ j, j < a.length → sameU (a.getD j zeroU) (b.getD j zeroU) = true := by
  unfold sameUs at h
  rw [Bool.and_eq_true, decide_eq_true_eq, List.all_eq_true] at h
  exact ⟨h.1, fun j hj => h.2 j (List.mem_range.2 hj)⟩
theorem sameU_eq {u v : Upp} (h : sameU u v = true) : v.s.toList = u.s.toList ∧ v.d = u.d := by
  unfold sameU at h
  simp only [Bool.and_eq_true, beq_iff_eq] at h
  obtain ⟨⟨⟨h1, _⟩, _⟩, h4⟩ := h
  refine ⟨h1.symm, ?_⟩
  unfold sameB strB at h4
  rw [beq_iff_eq, ByteArray.toList_eq, ByteArray.toList_eq, bT_bytes, bT_bytes] at h4
  simpa using h4.symm
theorem same_srt {a b : List Upp} (h : sameUs a b = true) (hs : Srt a) : Srt b := by
  obtain ⟨hl, he⟩ := same_get h
  unfold Srt at hs ⊢
  rw [List.pairwise_iff_getElem] at hs ⊢
  intro i j hi hj hij
  have key : ∀ (k : Nat) (hk : k < b.length), (b[k]).s.toList = (a[k]'(by omega)).s.toList := fun k hk => by
    have := (sameU_eq (he k (by omega))).1
    rw [List.getD_eq_getElem?_getD, List.getD_eq_getElem?_getD, List.getElem?_eq_getElem hk, List.getElem?_eq_getElem (by omega)] at this
    exact this
  rw [key i hi, key j hj]
  exact hs i j _ _ hij
theorem same_d {a b : List Upp} {B : Nat} (h : sameUs a b = true) (hd : ∀ x ∈ a, x.d.length ≤ B) : ∀ x ∈ b, x.d.length ≤ B := fun x hx => by
  obtain ⟨hl, he⟩ := same_get h
  obtain ⟨j, hj, rfl⟩ := List.getElem_of_mem hx
  have := (sameU_eq (he j (by omega))).2
  rw [List.getD_eq_getElem?_getD, List.getD_eq_getElem?_getD, List.getElem?_eq_getElem hj, List.getElem?_eq_getElem (by omega : j < a.length)] at this
  simp only [Option.getD_some] at this
  rw [this]
  exact hd _ (List.getElem_mem _)
theorem foldM_srt : ∀ (rs : List Rc) {l u : List Upp}, foldM l rs = some u → Srt l → Srt u
  | [], l, u, h, hs => by
    unfold foldM at h
    injection h with h
    subst h
    exact hs
  | r :: rs, l, u, h, hs => by
    unfold foldM at h
    split at h
    · cases h
    · rename_i l' he
      exact foldM_srt rs h (srt_one hs he)
/-- what a right store is -/
structure Fit (s : St) : Prop where
  e : 0 ≤ s.e ∧ s.e ≤ 10000
  d : dOk s.a s.b = true
  n : 0 ≤ s.n ∧ s.n ≤ s.a.length
  srt : Srt s.u
  u : s.u.length ≤ 10
  ud : ∀ x ∈ s.u, x.d.length ≤ 4800
theorem ok_fit {s : St} (h : okM s = true) : Fit s := by
  unfold okM at h
  simp only [Bool.and_eq_true, decide_eq_true_eq] at h
  obtain ⟨⟨h1, h2⟩, h3⟩ := h
  split at h3
  · cases h3
  · rename_i u hF
    obtain ⟨hul, hud⟩ := foldM_ok _ (B := 0) hF (Nat.zero_le _) (fun x hx => by cases hx)
    have hsl := scanM_len s.a
    have hsm := sumD_24 _ (scan_d (a := s.a))
    obtain ⟨d1, d2, d3, d4⟩ := dOk_sz h2
    unfold okTail at h3
    simp only [Bool.and_eq_true, decide_eq_true_eq] at h3
    obtain ⟨⟨⟨h4, h5⟩, _⟩, _⟩ := h3
    have hlen := (same_get h4).1
    exact ⟨h1, h2, by omega, same_srt h4 (foldM_srt _ hF List.Pairwise.nil), by omega, same_d h4 (fun x hx => by have := hud x hx; omega)⟩
attribute [local irreducible] getRecM scanM foldM topM dOk okM putS
def dropR (s : St) (id : ByteArray) : Rc := ⟨s.e, s.n, 4, id, 0, []⟩
def dropT (s : St) (id : ByteArray) : St := ⟨s.a.set s.n.toNat (putS (dropR s id)), s.b, s.e, s.n + 1, s.u.eraseIdx (posM id s.u)⟩
def dropM (s : St) (id : ByteArray) : St × Int :=
  if okM s && idOkM id then (if hasM id s.u then (if (s.a.length : Int) - s.n < 1 then (s, 5) else (dropT s id, 0)) else (s, 2)) else (s, 1)
theorem dropR_ok {s : St} (f : Fit s) {id : ByteArray} (hi : idOkM id = true) (hn : s.n < s.a.length) : recOkM (dropR s id) = true := by
  obtain ⟨d1, d2, d3, d4⟩ := dOk_sz f.d
  have h1 := f.e
  have h2 := f.n
  unfold recOkM dropR
  rw [hi]
  simp
  omega
theorem drop_fold {s : St} {id : ByteArray} (hh : hasM id s.u = true) : foldOne s.u (dropR s id) = some (s.u.eraseIdx (posM id s.u)) := by
  unfold foldOne dropR
  rw [if_neg (show ¬ (4 : Int) = 1 by decide), if_neg (by rw [hh]; exact Bool.noConfusion), if_neg (show ¬ (4 : Int) = 2 by decide), if_neg (show ¬ (4 : Int) = 3 by decide), if_pos rfl]
theorem dropUpI (s : St) (id : ByteArray) (h : s.sm) (f : Fit s) (hid : id.size ≤ 1048576) (hok : okM s = true) : AGood e.P 115 [.box 56 (stOs s), .ro (.str id)] (.int .i64 (dropM s id).2) [.box (stTs (dropM s id).1), .keep] := by
  have c1 := idOk id (by omega)
  obtain ⟨d1, d2, d3, d4⟩ := dOk_sz f.d
  have hn := f.n
  have ha := h.a
  have hM : ∃ M, dropM s id = M := ⟨_, rfl⟩
  obtain ⟨M, hM⟩ := hM
  rw [hM]
  unfold dropM at hM
  rw [hok, Bool.true_and] at hM
  cases hi : idOkM id with
  | false =>
    rw [hi] at c1
    rw [hi, if_neg Bool.false_ne_true] at hM
    subst hM
    refine agood eok (fn := Try.f115) kr_ de_ rfl kr_ ok_S7 ok_S7 ?_
    repeat' (first | refine o_cons ?_ | refine w_ok rfl ?_ | refine w_call rfl (c1) ?_ | refine o_nil ?_ | refine q_then ?_ | refine sq ?_ | refine aw_seq ?_ | refine aw_reg ?_ | refine w_pT rfl ka rfl ?_ | refine w_pF rfl ka rfl ?_ | refine o_y rfl ka ?_ | refine o_nT rfl ka ?_ | refine o_nF rfl ka ?_ | refine o_nU rfl ?_ | refine aw_cT rfl ka ?_ | refine aw_cF rfl ka ?_ | refine o_gT rfl (fun h => ?_) (fun h => ?_) | refine o_gF rfl (fun h => ?_) (fun h => ?_) | refine aw_cond rfl (fun h => ?_) (fun h => ?_) | refine aw_block ?_ | refine aw_skip ?_ | refine aw_ret ?_ | refine q_ret ?_ | refine q_blockN ?_ | refine q_blockR ?_ | refine aw_exit ?_ | refine q_exit ?_ | refine q_blockE ?_ | refine q_blockX de_ ?_ | refine fin_r rfl ?_ | (refine w_req rfl ?_ ?_; · exact rq_S7) | (refine w_lk rfl ?_; refine ⟨_, lk_, ?_⟩) | refine w_look (l' := _ :: _) rfl rfl ?_ | refine w_look (l' := []) rfl rfl ?_ | refine w_req rfl ?_ ?_ | refine w_pick rfl (fun b => ?_) | refine l_call rfl (c1) ?_ | refine aw_drw kr_ ?_ | refine d_cons ?_ | refine l_ok rfl ?_ | refine d_nil kr_ ?_ | refine d_y rfl ka ?_ | refine d_nT rfl ka ?_ | refine d_nF rfl ka ?_ | refine d_nU rfl ?_ | refine l_pT rfl ka rfl ?_ | refine l_pF rfl ka rfl ?_ | refine d_gT rfl (fun h => ?_) (fun h => ?_) | refine d_gF rfl (fun h => ?_) (fun h => ?_) | (refine l_req rfl ?_ ?_; · exact rq_S7) | (refine l_lk rfl ?_; refine ⟨_, lk_, ?_⟩) | refine l_look (l' := _ :: _) rfl rfl ?_ | refine l_look (l' := []) rfl rfl ?_ | refine l_req rfl ?_ ?_)
    rfl
  | true =>
    rw [hi] at c1
    rw [hi, if_pos rfl] at hM
    cases hh : hasM id s.u with
    | false =>
      have c2 := findO0 s id h hh
      rw [hh, if_neg Bool.false_ne_true] at hM
      subst hM
      refine agood eok (fn := Try.f115) kr_ de_ rfl kr_ ok_S7 ok_S7 ?_
      repeat' (first | refine o_cons ?_ | refine w_ok rfl ?_ | refine w_call rfl (c1) ?_ | refine w_call rfl (c2) ?_ | refine o_nil ?_ | refine q_then ?_ | refine sq ?_ | refine aw_seq ?_ | refine aw_reg ?_ | refine w_pT rfl ka rfl ?_ | refine w_pF rfl ka rfl ?_ | refine o_y rfl ka ?_ | refine o_nT rfl ka ?_ | refine o_nF rfl ka ?_ | refine o_nU rfl ?_ | refine aw_cT rfl ka ?_ | refine aw_cF rfl ka ?_ | refine o_gT rfl (fun h => ?_) (fun h => ?_) | refine o_gF rfl (fun h => ?_) (fun h => ?_) | refine aw_cond rfl (fun h => ?_) (fun h => ?_) | refine aw_block ?_ | refine aw_skip ?_ | refine aw_ret ?_ | refine q_ret ?_ | refine q_blockN ?_ | refine q_blockR ?_ | refine aw_exit ?_ | refine q_exit ?_ | refine q_blockE ?_ | refine q_blockX de_ ?_ | refine fin_r rfl ?_ | (refine w_req rfl ?_ ?_; · exact rq_S7) | (refine w_lk rfl ?_; refine ⟨_, lk_, ?_⟩) | refine w_look (l' := _ :: _) rfl rfl ?_ | refine w_look (l' := []) rfl rfl ?_ | refine w_req rfl ?_ ?_ | refine w_pick rfl (fun b => ?_) | refine l_call rfl (c1) ?_ | refine l_call rfl (c2) ?_ | refine aw_drw kr_ ?_ | refine d_cons ?_ | refine l_ok rfl ?_ | refine d_nil kr_ ?_ | refine d_y rfl ka ?_ | refine d_nT rfl ka ?_ | refine d_nF rfl ka ?_ | refine d_nU rfl ?_ | refine l_pT rfl ka rfl ?_ | refine l_pF rfl ka rfl ?_ | refine d_gT rfl (fun h => ?_) (fun h => ?_) | refine d_gF rfl (fun h => ?_) (fun h => ?_) | (refine l_req rfl ?_ ?_; · exact rq_S7) | (refine l_lk rfl ?_; refine ⟨_, lk_, ?_⟩) | refine l_look (l' := _ :: _) rfl rfl ?_ | refine l_look (l' := []) rfl rfl ?_ | refine l_req rfl ?_ ?_)
      rfl
    | true =>
      obtain ⟨x, c2⟩ := findO1 s id h hh
      rw [hh, if_pos rfl] at hM
      have c3 := leftO s h (by omega)
      by_cases hq : (s.a.length : Int) - s.n < 1
      · have k1 : decide ((s.a.length : Int) - s.n < 1) = true := decide_eq_true hq
        rw [if_pos hq] at hM
        subst hM
        refine agood eok (fn := Try.f115) kr_ de_ rfl kr_ ok_S7 ok_S7 ?_
        repeat' (first | refine o_cons ?_ | refine w_ok rfl ?_ | refine w_call rfl (c1) ?_ | refine w_call rfl (c2) ?_ | refine w_call rfl (c3) ?_ | refine o_nil ?_ | refine q_then ?_ | refine sq ?_ | refine aw_seq ?_ | refine aw_reg ?_ | refine w_pT rfl ka rfl ?_ | refine w_pF rfl ka rfl ?_ | refine o_y rfl ka ?_ | refine o_nT rfl ka ?_ | refine o_nF rfl ka ?_ | refine o_nU rfl ?_ | refine aw_cT rfl ka ?_ | refine aw_cF rfl ka ?_ | refine o_gT rfl (fun h => ?_) (fun h => ?_) | refine o_gF rfl (fun h => ?_) (fun h => ?_) | refine aw_cond rfl (fun h => ?_) (fun h => ?_) | refine aw_block ?_ | refine aw_skip ?_ | refine aw_ret ?_ | refine q_ret ?_ | refine q_blockN ?_ | refine q_blockR ?_ | refine aw_exit ?_ | refine q_exit ?_ | refine q_blockE ?_ | refine q_blockX de_ ?_ | refine fin_r rfl ?_ | (refine w_req rfl ?_ ?_; · exact rq_S7) | (refine w_lk rfl ?_; refine ⟨_, lk_, ?_⟩) | refine w_look (l' := _ :: _) rfl rfl ?_ | refine w_look (l' := []) rfl rfl ?_ | refine w_req rfl ?_ ?_ | refine w_pick rfl (fun b => ?_) | refine l_call rfl (c1) ?_ | refine l_call rfl (c2) ?_ | refine l_call rfl (c3) ?_ | refine aw_drw kr_ ?_ | refine d_cons ?_ | refine l_ok rfl ?_ | refine d_nil kr_ ?_ | refine d_y rfl ka ?_ | refine d_nT rfl ka ?_ | refine d_nF rfl ka ?_ | refine d_nU rfl ?_ | refine l_pT rfl ka rfl ?_ | refine l_pF rfl ka rfl ?_ | refine d_gT rfl (fun h => ?_) (fun h => ?_) | refine d_gF rfl (fun h => ?_) (fun h => ?_) | (refine l_req rfl ?_ ?_; · exact rq_S7) | (refine l_lk rfl ?_; refine ⟨_, lk_, ?_⟩) | refine l_look (l' := _ :: _) rfl rfl ?_ | refine l_look (l' := []) rfl rfl ?_ | refine l_req rfl ?_ ?_)
        rfl
      · have k1 : decide ((s.a.length : Int) - s.n < 1) = false := decide_eq_false hq
        rw [if_neg hq] at hM
        subst hM
        have c4 := writeI s 4 0 id [] (c := 0) rfl h (by omega) f.u hid (by decide) (drop_fold hh)
        refine agood eok (fn := Try.f115) kr_ de_ rfl kr_ ok_S7 ok_S7 ?_
        repeat' (first | refine o_cons ?_ | refine w_ok rfl ?_ | refine w_call rfl (c1) ?_ | refine w_call rfl (c2) ?_ | refine w_call rfl (c3) ?_ | refine w_call rfl (c4) ?_ | refine o_nil ?_ | refine q_then ?_ | refine sq ?_ | refine aw_seq ?_ | refine aw_reg ?_ | refine w_pT rfl ka rfl ?_ | refine w_pF rfl ka rfl ?_ | refine o_y rfl ka ?_ | refine o_nT rfl ka ?_ | refine o_nF rfl ka ?_ | refine o_nU rfl ?_ | refine aw_cT rfl ka ?_ | refine aw_cF rfl ka ?_ | refine o_gT rfl (fun h => ?_) (fun h => ?_) | refine o_gF rfl (fun h => ?_) (fun h => ?_) | refine aw_cond rfl (fun h => ?_) (fun h => ?_) | refine aw_block ?_ | refine aw_skip ?_ | refine aw_ret ?_ | refine q_ret ?_ | refine q_blockN ?_ | refine q_blockR ?_ | refine aw_exit ?_ | refine q_exit ?_ | refine q_blockE ?_ | refine q_blockX de_ ?_ | refine fin_r rfl ?_ | (refine w_req rfl ?_ ?_; · exact rq_S7) | (refine w_lk rfl ?_; refine ⟨_, lk_, ?_⟩) | refine w_look (l' := _ :: _) rfl rfl ?_ | refine w_look (l' := []) rfl rfl ?_ | refine w_req rfl ?_ ?_ | refine w_pick rfl (fun b => ?_) | refine l_call rfl (c1) ?_ | refine l_call rfl (c2) ?_ | refine l_call rfl (c3) ?_ | refine l_call rfl (c4) ?_ | refine aw_drw kr_ ?_ | refine d_cons ?_ | refine l_ok rfl ?_ | refine d_nil kr_ ?_ | refine d_y rfl ka ?_ | refine d_nT rfl ka ?_ | refine d_nF rfl ka ?_ | refine d_nU rfl ?_ | refine l_pT rfl ka rfl ?_ | refine l_pF rfl ka rfl ?_ | refine d_gT rfl (fun h => ?_) (fun h => ?_) | refine d_gF rfl (fun h => ?_) (fun h => ?_) | (refine l_req rfl ?_ ?_; · exact rq_S7) | (refine l_lk rfl ?_; refine ⟨_, lk_, ?_⟩) | refine l_look (l' := _ :: _) rfl rfl ?_ | refine l_look (l' := []) rfl rfl ?_ | refine l_req rfl ?_ ?_)
        rfl
theorem dropI (s : St) (id : ByteArray) (h : s.sm) (hid : id.size ≤ 1048576) : AGood e.P 65 [stR s, .ro (.str id)] (.tup [stT (dropM s id).1, .int .i64 (dropM s id).2]) [keep5, .keep] := by
  have c1 := copyStore s h
  have c2 := storeOk s h
  cases hok : okM s with
  | false =>
    have hM : dropM s id = (s, 1) := by unfold dropM; rw [hok]; rfl
    rw [hM]
    rw [hok] at c2
    refine agood eok (fn := Try.f65) kr_ de_ rfl kr_ ok_S7 ok_S7 ?_
    repeat' (first | refine o_cons ?_ | refine w_ok rfl ?_ | refine w_call rfl (c1) ?_ | refine w_call rfl (c2) ?_ | refine o_nil ?_ | refine q_then ?_ | refine sq ?_ | refine aw_seq ?_ | refine aw_reg ?_ | refine w_pT rfl ka rfl ?_ | refine w_pF rfl ka rfl ?_ | refine o_y rfl ka ?_ | refine o_nT rfl ka ?_ | refine o_nF rfl ka ?_ | refine o_nU rfl ?_ | refine aw_cT rfl ka ?_ | refine aw_cF rfl ka ?_ | refine o_gT rfl (fun h => ?_) (fun h => ?_) | refine o_gF rfl (fun h => ?_) (fun h => ?_) | refine aw_cond rfl (fun h => ?_) (fun h => ?_) | refine aw_block ?_ | refine aw_skip ?_ | refine aw_ret ?_ | refine q_ret ?_ | refine q_blockN ?_ | refine q_blockR ?_ | refine aw_exit ?_ | refine q_exit ?_ | refine q_blockE ?_ | refine q_blockX de_ ?_ | refine fin_r rfl ?_ | (refine w_req rfl ?_ ?_; · exact rq_S7) | (refine w_lk rfl ?_; refine ⟨_, lk_, ?_⟩) | refine w_look (l' := _ :: _) rfl rfl ?_ | refine w_look (l' := []) rfl rfl ?_ | refine w_req rfl ?_ ?_ | refine w_pick rfl (fun b => ?_) | refine l_call rfl (c1) ?_ | refine l_call rfl (c2) ?_ | refine aw_drw kr_ ?_ | refine d_cons ?_ | refine l_ok rfl ?_ | refine d_nil kr_ ?_ | refine d_y rfl ka ?_ | refine d_nT rfl ka ?_ | refine d_nF rfl ka ?_ | refine d_nU rfl ?_ | refine l_pT rfl ka rfl ?_ | refine l_pF rfl ka rfl ?_ | refine d_gT rfl (fun h => ?_) (fun h => ?_) | refine d_gF rfl (fun h => ?_) (fun h => ?_) | (refine l_req rfl ?_ ?_; · exact rq_S7) | (refine l_lk rfl ?_; refine ⟨_, lk_, ?_⟩) | refine l_look (l' := _ :: _) rfl rfl ?_ | refine l_look (l' := []) rfl rfl ?_ | refine l_req rfl ?_ ?_)
    rfl
  | true =>
    have c3 := dropUpI s id h (ok_fit hok) hid hok
    rw [hok] at c2
    generalize dropM s id = M at *
    obtain ⟨t, k⟩ := M
    simp only at c3 ⊢
    refine agood eok (fn := Try.f65) kr_ de_ rfl kr_ ok_S7 ok_S7 ?_
    repeat' (first | refine o_cons ?_ | refine w_ok rfl ?_ | refine w_call rfl (c1) ?_ | refine w_call rfl (c2) ?_ | refine w_call rfl (c3) ?_ | refine o_nil ?_ | refine q_then ?_ | refine sq ?_ | refine aw_seq ?_ | refine aw_reg ?_ | refine w_pT rfl ka rfl ?_ | refine w_pF rfl ka rfl ?_ | refine o_y rfl ka ?_ | refine o_nT rfl ka ?_ | refine o_nF rfl ka ?_ | refine o_nU rfl ?_ | refine aw_cT rfl ka ?_ | refine aw_cF rfl ka ?_ | refine o_gT rfl (fun h => ?_) (fun h => ?_) | refine o_gF rfl (fun h => ?_) (fun h => ?_) | refine aw_cond rfl (fun h => ?_) (fun h => ?_) | refine aw_block ?_ | refine aw_skip ?_ | refine aw_ret ?_ | refine q_ret ?_ | refine q_blockN ?_ | refine q_blockR ?_ | refine aw_exit ?_ | refine q_exit ?_ | refine q_blockE ?_ | refine q_blockX de_ ?_ | refine fin_r rfl ?_ | (refine w_req rfl ?_ ?_; · exact rq_S7) | (refine w_lk rfl ?_; refine ⟨_, lk_, ?_⟩) | refine w_look (l' := _ :: _) rfl rfl ?_ | refine w_look (l' := []) rfl rfl ?_ | refine w_req rfl ?_ ?_ | refine w_pick rfl (fun b => ?_) | refine l_call rfl (c1) ?_ | refine l_call rfl (c2) ?_ | refine l_call rfl (c3) ?_ | refine aw_drw kr_ ?_ | refine d_cons ?_ | refine l_ok rfl ?_ | refine d_nil kr_ ?_ | refine d_y rfl ka ?_ | refine d_nT rfl ka ?_ | refine d_nF rfl ka ?_ | refine d_nU rfl ?_ | refine l_pT rfl ka rfl ?_ | refine l_pF rfl ka rfl ?_ | refine d_gT rfl (fun h => ?_) (fun h => ?_) | refine d_gF rfl (fun h => ?_) (fun h => ?_) | (refine l_req rfl ?_ ?_; · exact rq_S7) | (refine l_lk rfl ?_; refine ⟨_, lk_, ?_⟩) | refine l_look (l' := _ :: _) rfl rfl ?_ | refine l_look (l' := []) rfl rfl ?_ | refine l_req rfl ?_ ?_)
    rfl
theorem dropS (s : St) (id : ByteArray) (h : s.sm) (hid : id.size ≤ 1048576) : AGood e.P 64 [stR s, .ro (.str id)] (.tup [stT (dropM s id).1, .int .i64 (dropM s id).2]) [keep5, .keep] := by
  have hu := h.u
  have ha := h.a
  have c1 := copyStoreS s h
  have c2 := storeOkS s h
  have c3 := idOkS id (by omega)
  have c4 := l14At s.u rfl id (by omega)
  have hM : ∃ M, dropM s id = M := ⟨_, rfl⟩
  obtain ⟨M, hM⟩ := hM
  rw [hM]
  unfold dropM at hM
  cases hok : okM s with
  | false =>
    rw [hok] at c2
    rw [hok] at hM
    simp only [Bool.false_and, if_false, Bool.false_eq_true] at hM
    subst hM
    refine agood eok (fn := Try.f64) kr_ de_ rfl kr_ ok_S7 ok_S7 ?_
    repeat' (first | refine o_cons ?_ | refine w_ok rfl ?_ | refine w_call rfl (c1) ?_ | refine w_call rfl (c2) ?_ | refine o_nil ?_ | refine q_then ?_ | refine sq ?_ | refine aw_seq ?_ | refine aw_reg ?_ | refine w_pT rfl ka rfl ?_ | refine w_pF rfl ka rfl ?_ | refine o_y rfl ka ?_ | refine o_nT rfl ka ?_ | refine o_nF rfl ka ?_ | refine o_nU rfl ?_ | refine aw_cT rfl ka ?_ | refine aw_cF rfl ka ?_ | refine o_gT rfl (fun h => ?_) (fun h => ?_) | refine o_gF rfl (fun h => ?_) (fun h => ?_) | refine aw_cond rfl (fun h => ?_) (fun h => ?_) | refine aw_block ?_ | refine aw_skip ?_ | refine aw_ret ?_ | refine q_ret ?_ | refine q_blockN ?_ | refine q_blockR ?_ | refine aw_exit ?_ | refine q_exit ?_ | refine q_blockE ?_ | refine q_blockX de_ ?_ | refine fin_r rfl ?_ | (refine w_req rfl ?_ ?_; · exact rq_S7) | (refine w_lk rfl ?_; refine ⟨_, lk_, ?_⟩) | refine w_look (l' := _ :: _) rfl rfl ?_ | refine w_look (l' := []) rfl rfl ?_ | refine w_req rfl ?_ ?_ | refine w_pick rfl (fun b => ?_) | refine l_call rfl (c1) ?_ | refine l_call rfl (c2) ?_ | refine aw_drw kr_ ?_ | refine d_cons ?_ | refine l_ok rfl ?_ | refine d_nil kr_ ?_ | refine d_y rfl ka ?_ | refine d_nT rfl ka ?_ | refine d_nF rfl ka ?_ | refine d_nU rfl ?_ | refine l_pT rfl ka rfl ?_ | refine l_pF rfl ka rfl ?_ | refine d_gT rfl (fun h => ?_) (fun h => ?_) | refine d_gF rfl (fun h => ?_) (fun h => ?_) | (refine l_req rfl ?_ ?_; · exact rq_S7) | (refine l_lk rfl ?_; refine ⟨_, lk_, ?_⟩) | refine l_look (l' := _ :: _) rfl rfl ?_ | refine l_look (l' := []) rfl rfl ?_ | refine l_req rfl ?_ ?_)
    rfl
  | true =>
    have f := ok_fit hok
    obtain ⟨d1, d2, d3, d4⟩ := dOk_sz f.d
    have hn := f.n
    rw [hok] at c2 hM
    rw [Bool.true_and] at hM
    cases hi : idOkM id with
    | false =>
      rw [hi] at c3
      rw [hi, if_neg Bool.false_ne_true] at hM
      subst hM
      refine agood eok (fn := Try.f64) kr_ de_ rfl kr_ ok_S7 ok_S7 ?_
      repeat' (first | refine o_cons ?_ | refine w_ok rfl ?_ | refine w_call rfl (c1) ?_ | refine w_call rfl (c2) ?_ | refine w_call rfl (c3) ?_ | refine o_nil ?_ | refine q_then ?_ | refine sq ?_ | refine aw_seq ?_ | refine aw_reg ?_ | refine w_pT rfl ka rfl ?_ | refine w_pF rfl ka rfl ?_ | refine o_y rfl ka ?_ | refine o_nT rfl ka ?_ | refine o_nF rfl ka ?_ | refine o_nU rfl ?_ | refine aw_cT rfl ka ?_ | refine aw_cF rfl ka ?_ | refine o_gT rfl (fun h => ?_) (fun h => ?_) | refine o_gF rfl (fun h => ?_) (fun h => ?_) | refine aw_cond rfl (fun h => ?_) (fun h => ?_) | refine aw_block ?_ | refine aw_skip ?_ | refine aw_ret ?_ | refine q_ret ?_ | refine q_blockN ?_ | refine q_blockR ?_ | refine aw_exit ?_ | refine q_exit ?_ | refine q_blockE ?_ | refine q_blockX de_ ?_ | refine fin_r rfl ?_ | (refine w_req rfl ?_ ?_; · exact rq_S7) | (refine w_lk rfl ?_; refine ⟨_, lk_, ?_⟩) | refine w_look (l' := _ :: _) rfl rfl ?_ | refine w_look (l' := []) rfl rfl ?_ | refine w_req rfl ?_ ?_ | refine w_pick rfl (fun b => ?_) | refine l_call rfl (c1) ?_ | refine l_call rfl (c2) ?_ | refine l_call rfl (c3) ?_ | refine aw_drw kr_ ?_ | refine d_cons ?_ | refine l_ok rfl ?_ | refine d_nil kr_ ?_ | refine d_y rfl ka ?_ | refine d_nT rfl ka ?_ | refine d_nF rfl ka ?_ | refine d_nU rfl ?_ | refine l_pT rfl ka rfl ?_ | refine l_pF rfl ka rfl ?_ | refine d_gT rfl (fun h => ?_) (fun h => ?_) | refine d_gF rfl (fun h => ?_) (fun h => ?_) | (refine l_req rfl ?_ ?_; · exact rq_S7) | (refine l_lk rfl ?_; refine ⟨_, lk_, ?_⟩) | refine l_look (l' := _ :: _) rfl rfl ?_ | refine l_look (l' := []) rfl rfl ?_ | refine l_req rfl ?_ ?_)
      rfl
    | true =>
      rw [hi] at c3
      rw [hi, if_pos rfl] at hM
      cases hh : hasM id s.u with
      | false =>
        rw [has_none f.srt hh] at c4
        have c4 : AGood e.P 87 [.ro (.row 4 s.u.length (uT s.u)), .ro (.str id)] (.int .i64 (-1)) [.keep, .keep] := c4
        rw [hh, if_neg Bool.false_ne_true] at hM
        subst hM
        refine agood eok (fn := Try.f64) kr_ de_ rfl kr_ ok_S7 ok_S7 ?_
        repeat' (first | refine o_cons ?_ | refine w_ok rfl ?_ | refine w_call rfl (c1) ?_ | refine w_call rfl (c2) ?_ | refine w_call rfl (c3) ?_ | refine w_call rfl (c4) ?_ | refine o_nil ?_ | refine q_then ?_ | refine sq ?_ | refine aw_seq ?_ | refine aw_reg ?_ | refine w_pT rfl ka rfl ?_ | refine w_pF rfl ka rfl ?_ | refine o_y rfl ka ?_ | refine o_nT rfl ka ?_ | refine o_nF rfl ka ?_ | refine o_nU rfl ?_ | refine aw_cT rfl ka ?_ | refine aw_cF rfl ka ?_ | refine o_gT rfl (fun h => ?_) (fun h => ?_) | refine o_gF rfl (fun h => ?_) (fun h => ?_) | refine aw_cond rfl (fun h => ?_) (fun h => ?_) | refine aw_block ?_ | refine aw_skip ?_ | refine aw_ret ?_ | refine q_ret ?_ | refine q_blockN ?_ | refine q_blockR ?_ | refine aw_exit ?_ | refine q_exit ?_ | refine q_blockE ?_ | refine q_blockX de_ ?_ | refine fin_r rfl ?_ | (refine w_req rfl ?_ ?_; · exact rq_S7) | (refine w_lk rfl ?_; refine ⟨_, lk_, ?_⟩) | refine w_look (l' := _ :: _) rfl rfl ?_ | refine w_look (l' := []) rfl rfl ?_ | refine w_req rfl ?_ ?_ | refine w_pick rfl (fun b => ?_) | refine l_call rfl (c1) ?_ | refine l_call rfl (c2) ?_ | refine l_call rfl (c3) ?_ | refine l_call rfl (c4) ?_ | refine aw_drw kr_ ?_ | refine d_cons ?_ | refine l_ok rfl ?_ | refine d_nil kr_ ?_ | refine d_y rfl ka ?_ | refine d_nT rfl ka ?_ | refine d_nF rfl ka ?_ | refine d_nU rfl ?_ | refine l_pT rfl ka rfl ?_ | refine l_pF rfl ka rfl ?_ | refine d_gT rfl (fun h => ?_) (fun h => ?_) | refine d_gF rfl (fun h => ?_) (fun h => ?_) | (refine l_req rfl ?_ ?_; · exact rq_S7) | (refine l_lk rfl ?_; refine ⟨_, lk_, ?_⟩) | refine l_look (l' := _ :: _) rfl rfl ?_ | refine l_look (l' := []) rfl rfl ?_ | refine l_req rfl ?_ ?_)
        rfl
      | true =>
        rw [has_some hh] at c4
        have c4 : AGood e.P 87 [.ro (.row 4 s.u.length (uT s.u)), .ro (.str id)] (.int .i64 (posM id s.u : Int)) [.keep, .keep] := c4
        have k0 : decide ((posM id s.u : Int) < 0) = false := by simp
        rw [hh, if_pos rfl] at hM
        have c5 := leftS s h (by omega)
        by_cases hq : (s.a.length : Int) - s.n < 1
        · have k1 : decide ((s.a.length : Int) - s.n < 1) = true := decide_eq_true hq
          rw [if_pos hq] at hM
          subst hM
          refine agood eok (fn := Try.f64) kr_ de_ rfl kr_ ok_S7 ok_S7 ?_
          repeat' (first | refine o_cons ?_ | refine w_ok rfl ?_ | refine w_call rfl (c1) ?_ | refine w_call rfl (c2) ?_ | refine w_call rfl (c3) ?_ | refine w_call rfl (c4) ?_ | refine w_call rfl (c5) ?_ | refine o_nil ?_ | refine q_then ?_ | refine sq ?_ | refine aw_seq ?_ | refine aw_reg ?_ | refine w_pT rfl ka rfl ?_ | refine w_pF rfl ka rfl ?_ | refine o_y rfl ka ?_ | refine o_nT rfl ka ?_ | refine o_nF rfl ka ?_ | refine o_nU rfl ?_ | refine aw_cT rfl ka ?_ | refine aw_cF rfl ka ?_ | refine o_gT rfl (fun h => ?_) (fun h => ?_) | refine o_gF rfl (fun h => ?_) (fun h => ?_) | refine aw_cond rfl (fun h => ?_) (fun h => ?_) | refine aw_block ?_ | refine aw_skip ?_ | refine aw_ret ?_ | refine q_ret ?_ | refine q_blockN ?_ | refine q_blockR ?_ | refine aw_exit ?_ | refine q_exit ?_ | refine q_blockE ?_ | refine q_blockX de_ ?_ | refine fin_r rfl ?_ | (refine w_req rfl ?_ ?_; · exact rq_S7) | (refine w_lk rfl ?_; refine ⟨_, lk_, ?_⟩) | refine w_look (l' := _ :: _) rfl rfl ?_ | refine w_look (l' := []) rfl rfl ?_ | refine w_req rfl ?_ ?_ | refine w_pick rfl (fun b => ?_) | refine l_call rfl (c1) ?_ | refine l_call rfl (c2) ?_ | refine l_call rfl (c3) ?_ | refine l_call rfl (c4) ?_ | refine l_call rfl (c5) ?_ | refine aw_drw kr_ ?_ | refine d_cons ?_ | refine l_ok rfl ?_ | refine d_nil kr_ ?_ | refine d_y rfl ka ?_ | refine d_nT rfl ka ?_ | refine d_nF rfl ka ?_ | refine d_nU rfl ?_ | refine l_pT rfl ka rfl ?_ | refine l_pF rfl ka rfl ?_ | refine d_gT rfl (fun h => ?_) (fun h => ?_) | refine d_gF rfl (fun h => ?_) (fun h => ?_) | (refine l_req rfl ?_ ?_; · exact rq_S7) | (refine l_lk rfl ?_; refine ⟨_, lk_, ?_⟩) | refine l_look (l' := _ :: _) rfl rfl ?_ | refine l_look (l' := []) rfl rfl ?_ | refine l_req rfl ?_ ?_)
          rfl
        · have k1 : decide ((s.a.length : Int) - s.n < 1) = false := decide_eq_false hq
          rw [if_neg hq] at hM
          subst hM
          have c6 := writeS s ⟨0, 0, 4, id, 0, []⟩ (c := 0) rfl h (by omega) f.u hid (Nat.zero_le _) (dropR_ok f hi (by omega)) ((fold_one _ f.srt).symm.trans (drop_fold hh))
          refine agood eok (fn := Try.f64) kr_ de_ rfl kr_ ok_S7 ok_S7 ?_
          repeat' (first | refine o_cons ?_ | refine w_ok rfl ?_ | refine w_call rfl (c1) ?_ | refine w_call rfl (c2) ?_ | refine w_call rfl (c3) ?_ | refine w_call rfl (c4) ?_ | refine w_call rfl (c5) ?_ | refine w_call rfl (c6) ?_ | refine o_nil ?_ | refine q_then ?_ | refine sq ?_ | refine aw_seq ?_ | refine aw_reg ?_ | refine w_pT rfl ka rfl ?_ | refine w_pF rfl ka rfl ?_ | refine o_y rfl ka ?_ | refine o_nT rfl ka ?_ | refine o_nF rfl ka ?_ | refine o_nU rfl ?_ | refine aw_cT rfl ka ?_ | refine aw_cF rfl ka ?_ | refine o_gT rfl (fun h => ?_) (fun h => ?_) | refine o_gF rfl (fun h => ?_) (fun h => ?_) | refine aw_cond rfl (fun h => ?_) (fun h => ?_) | refine aw_block ?_ | refine aw_skip ?_ | refine aw_ret ?_ | refine q_ret ?_ | refine q_blockN ?_ | refine q_blockR ?_ | refine aw_exit ?_ | refine q_exit ?_ | refine q_blockE ?_ | refine q_blockX de_ ?_ | refine fin_r rfl ?_ | (refine w_req rfl ?_ ?_; · exact rq_S7) | (refine w_lk rfl ?_; refine ⟨_, lk_, ?_⟩) | refine w_look (l' := _ :: _) rfl rfl ?_ | refine w_look (l' := []) rfl rfl ?_ | refine w_req rfl ?_ ?_ | refine w_pick rfl (fun b => ?_) | refine l_call rfl (c1) ?_ | refine l_call rfl (c2) ?_ | refine l_call rfl (c3) ?_ | refine l_call rfl (c4) ?_ | refine l_call rfl (c5) ?_ | refine l_call rfl (c6) ?_ | refine aw_drw kr_ ?_ | refine d_cons ?_ | refine l_ok rfl ?_ | refine d_nil kr_ ?_ | refine d_y rfl ka ?_ | refine d_nT rfl ka ?_ | refine d_nF rfl ka ?_ | refine d_nU rfl ?_ | refine l_pT rfl ka rfl ?_ | refine l_pF rfl ka rfl ?_ | refine d_gT rfl (fun h => ?_) (fun h => ?_) | refine d_gF rfl (fun h => ?_) (fun h => ?_) | (refine l_req rfl ?_ ?_; · exact rq_S7) | (refine l_lk rfl ?_; refine ⟨_, lk_, ?_⟩) | refine l_look (l' := _ :: _) rfl rfl ?_ | refine l_look (l' := []) rfl rfl ?_ | refine l_req rfl ?_ ?_)
          rfl
theorem drop_sm {s : St} (id : ByteArray) (h : s.sm) (hk : kSt 1 s ≤ 1000000000000) : (dropM s id).1.sm ∧ kSt 1 (dropM s id).1 ≤ 1000000000000 := by
  unfold dropM
  split
  · split
    · split
      · exact ⟨h, hk⟩
      · refine ⟨⟨by simpa [dropT] using h.a, h.b, ?_, fun x hx => h.d x (List.mem_of_mem_eraseIdx hx)⟩, ?_⟩
        · exact Nat.le_trans (List.length_eraseIdx_le _ _) h.u
        · have : ∀ (l : List Upp) (i : Nat), ((l.eraseIdx i).map upM).sum ≤ (l.map upM).sum := by
            intro l
            induction l with
            | nil => intro i; simp
            | cons x l ih =>
              intro i
              cases i with
              | zero => simp
              | succ i =>
                have := ih i
                simp only [List.eraseIdx_cons_succ, List.map_cons, List.sum_cons]
                omega
          have := this s.u (posM id s.u)
          unfold kSt kAll at hk ⊢
          simp only [dropT, List.length_set]
          omega
    · exact ⟨h, hk⟩
  · exact ⟨h, hk⟩
end Go.Proofs.Ytbkpmljdmlhmhaa
