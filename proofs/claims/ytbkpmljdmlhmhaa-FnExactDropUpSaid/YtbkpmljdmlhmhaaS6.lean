import Derived.Test.YtbkpmljdmlhmhaaS5
import Derived.Test.YtbkpmljdmlhmhaaX6
namespace Go.Proofs.Ytbkpmljdmlhmhaa
open Go Go.AM Ty
set_option maxRecDepth 100000
set_option maxHeartbeats 4000000
set_option linter.unusedVariables false
set_option linter.unusedSimpArgs false
attribute [local irreducible] aw aops aopsD wpo wpoL condW guardW thenQ blockQ finQ Le AGood
theorem rq_S6 {p : Prop} (h : p := by first | assumption | exact uT_plain _ | exact rT_plain _ | exact sT_plain _ | exact rq_) : p := h
theorem lk_S6 {p : Prop} (h : p := by first | exact bT_app _ _ | exact mp_el (f := Tr.str) emp side_ | exact mp_up (f := Tr.str) side_ | exact uT_el side_ | exact lk_) : p := h
theorem ok_S6 {p : Prop} (h : p := by first | (simp [Tr.okR, Tr.okRL, Tr.plainL, Tr.plain, cells1, Tr.cellB, PB.okRL, PB.okR, bT_plain, sT_plain, oT_plain, nT_plain, uT_plain, sT_plain, rT_plain, up_pl]; done) | exact ok_) : p := h
attribute [local irreducible] getRecM scanM foldM topM dOk okM putS
abbrev stOs (s : St) : List PA := [.own (.row 1 s.a.length (sT s.a)), .own (.row 1 s.b.length (sT s.b)), .ro (.int .i64 s.e), .ro (.int .i64 s.n), .own (.row 4 s.u.length (uT s.u))]
abbrev stRs (s : St) : List PA := [.ro (.row 1 s.a.length (sT s.a)), .ro (.row 1 s.b.length (sT s.b)), .ro (.int .i64 s.e), .ro (.int .i64 s.n), .ro (.row 4 s.u.length (uT s.u))]
abbrev stTs (s : St) : List Tr := [.row 1 s.a.length (sT s.a), .row 1 s.b.length (sT s.b), .int .i64 s.e, .int .i64 s.n, .row 4 s.u.length (uT s.u)]
abbrev stTags (s : St) : List Tr := [.tag 0, .tag 1, .int .i64 s.e, .int .i64 s.n, .tag 2]
theorem leftI (s : St) (h : s.sm) (hn : 0 ≤ s.n ∧ s.n ≤ 1048576) : AGood e.P 141 [.box 56 (stRs s)] (.int .i64 ((s.a.length : Int) - s.n)) [.box (stTags s)] := by
  have ha := h.a
  have w1 : IntKind.i64.wrap ((s.a.length : Int) - s.n) = (s.a.length : Int) - s.n := wrap64 (by omega) (by omega)
  refine agood eok (fn := Try.f141) kr_ de_ rfl kr_ ok_S6 ok_S6 ?_
  repeat' (first | refine o_cons ?_ | refine w_ok rfl ?_ | refine o_nil ?_ | refine q_then ?_ | refine sq ?_ | refine aw_seq ?_ | refine aw_reg ?_ | refine w_pT rfl ka rfl ?_ | refine w_pF rfl ka rfl ?_ | refine o_y rfl ka ?_ | refine o_nT rfl ka ?_ | refine o_nF rfl ka ?_ | refine o_nU rfl ?_ | refine aw_cT rfl ka ?_ | refine aw_cF rfl ka ?_ | refine o_gT rfl (fun h => ?_) (fun h => ?_) | refine o_gF rfl (fun h => ?_) (fun h => ?_) | refine aw_cond rfl (fun h => ?_) (fun h => ?_) | refine aw_block ?_ | refine aw_skip ?_ | refine aw_ret ?_ | refine q_ret ?_ | refine q_blockN ?_ | refine q_blockR ?_ | refine aw_exit ?_ | refine q_exit ?_ | refine q_blockE ?_ | refine q_blockX de_ ?_ | refine fin_r rfl ?_ | (refine w_req rfl ?_ ?_; · exact rq_S6) | (refine w_lk rfl ?_; refine ⟨_, lk_S6, ?_⟩) | refine w_look (l' := _ :: _) rfl rfl ?_ | refine w_look (l' := []) rfl rfl ?_ | refine w_req rfl ?_ ?_ | refine w_pick rfl (fun b => ?_) | refine aw_drw kr_ ?_ | refine d_cons ?_ | refine l_ok rfl ?_ | refine d_nil kr_ ?_ | refine d_y rfl ka ?_ | refine d_nT rfl ka ?_ | refine d_nF rfl ka ?_ | refine d_nU rfl ?_ | refine l_pT rfl ka rfl ?_ | refine l_pF rfl ka rfl ?_ | refine d_gT rfl (fun h => ?_) (fun h => ?_) | refine d_gF rfl (fun h => ?_) (fun h => ?_) | (refine l_req rfl ?_ ?_; · exact rq_S6) | (refine l_lk rfl ?_; refine ⟨_, lk_S6, ?_⟩) | refine l_look (l' := _ :: _) rfl rfl ?_ | refine l_look (l' := []) rfl rfl ?_ | refine l_req rfl ?_ ?_)
  rw [w1]
theorem leftS (s : St) (h : s.sm) (hn : 0 ≤ s.n ∧ s.n ≤ 1048576) : AGood e.P 113 [stR s] (.int .i64 ((s.a.length : Int) - s.n)) [keep5] := by
  have ha := h.a
  have w1 : IntKind.i64.wrap ((s.a.length : Int) - s.n) = (s.a.length : Int) - s.n := wrap64 (by omega) (by omega)
  refine agood eok (fn := Try.f113) kr_ de_ rfl kr_ ok_S6 ok_S6 ?_
  repeat' (first | refine o_cons ?_ | refine w_ok rfl ?_ | refine o_nil ?_ | refine q_then ?_ | refine sq ?_ | refine aw_seq ?_ | refine aw_reg ?_ | refine w_pT rfl ka rfl ?_ | refine w_pF rfl ka rfl ?_ | refine o_y rfl ka ?_ | refine o_nT rfl ka ?_ | refine o_nF rfl ka ?_ | refine o_nU rfl ?_ | refine aw_cT rfl ka ?_ | refine aw_cF rfl ka ?_ | refine o_gT rfl (fun h => ?_) (fun h => ?_) | refine o_gF rfl (fun h => ?_) (fun h => ?_) | refine aw_cond rfl (fun h => ?_) (fun h => ?_) | refine aw_block ?_ | refine aw_skip ?_ | refine aw_ret ?_ | refine q_ret ?_ | refine q_blockN ?_ | refine q_blockR ?_ | refine aw_exit ?_ | refine q_exit ?_ | refine q_blockE ?_ | refine q_blockX de_ ?_ | refine fin_r rfl ?_ | (refine w_req rfl ?_ ?_; · exact rq_S6) | (refine w_lk rfl ?_; refine ⟨_, lk_S6, ?_⟩) | refine w_look (l' := _ :: _) rfl rfl ?_ | refine w_look (l' := []) rfl rfl ?_ | refine w_req rfl ?_ ?_ | refine w_pick rfl (fun b => ?_) | refine aw_drw kr_ ?_ | refine d_cons ?_ | refine l_ok rfl ?_ | refine d_nil kr_ ?_ | refine d_y rfl ka ?_ | refine d_nT rfl ka ?_ | refine d_nF rfl ka ?_ | refine d_nU rfl ?_ | refine l_pT rfl ka rfl ?_ | refine l_pF rfl ka rfl ?_ | refine d_gT rfl (fun h => ?_) (fun h => ?_) | refine d_gF rfl (fun h => ?_) (fun h => ?_) | (refine l_req rfl ?_ ?_; · exact rq_S6) | (refine l_lk rfl ?_; refine ⟨_, lk_S6, ?_⟩) | refine l_look (l' := _ :: _) rfl rfl ?_ | refine l_look (l' := []) rfl rfl ?_ | refine l_req rfl ?_ ?_)
  rw [w1]
theorem findI0 (s : St) (id : ByteArray) (h : s.sm) (hh : hasM id s.u = false) : AGood e.P 140 [.box 56 (stRs s), .ro (.str id)] (.tup [.agg [.str emp, .int .i64 0, .row 1 0 [], .bool false], .bool false]) [.box (stTags s), .keep] := by
  have hu := h.u
  have c1 := upAtI s.u rfl id (by omega)
  rw [hh] at c1
  refine agood eok (fn := Try.f140) kr_ de_ rfl kr_ ok_S6 ok_S6 ?_
  repeat' (first | refine o_cons ?_ | refine w_ok rfl ?_ | refine w_call rfl (c1) ?_ | refine o_nil ?_ | refine q_then ?_ | refine sq ?_ | refine aw_seq ?_ | refine aw_reg ?_ | refine w_pT rfl ka rfl ?_ | refine w_pF rfl ka rfl ?_ | refine o_y rfl ka ?_ | refine o_nT rfl ka ?_ | refine o_nF rfl ka ?_ | refine o_nU rfl ?_ | refine aw_cT rfl ka ?_ | refine aw_cF rfl ka ?_ | refine o_gT rfl (fun h => ?_) (fun h => ?_) | refine o_gF rfl (fun h => ?_) (fun h => ?_) | refine aw_cond rfl (fun h => ?_) (fun h => ?_) | refine aw_block ?_ | refine aw_skip ?_ | refine aw_ret ?_ | refine q_ret ?_ | refine q_blockN ?_ | refine q_blockR ?_ | refine aw_exit ?_ | refine q_exit ?_ | refine q_blockE ?_ | refine q_blockX de_ ?_ | refine fin_r rfl ?_ | (refine w_req rfl ?_ ?_; · exact rq_S6) | (refine w_lk rfl ?_; refine ⟨_, lk_S6, ?_⟩) | refine w_look (l' := _ :: _) rfl rfl ?_ | refine w_look (l' := []) rfl rfl ?_ | refine w_req rfl ?_ ?_ | refine w_pick rfl (fun b => ?_) | refine l_call rfl (c1) ?_ | refine aw_drw kr_ ?_ | refine d_cons ?_ | refine l_ok rfl ?_ | refine d_nil kr_ ?_ | refine d_y rfl ka ?_ | refine d_nT rfl ka ?_ | refine d_nF rfl ka ?_ | refine d_nU rfl ?_ | refine l_pT rfl ka rfl ?_ | refine l_pF rfl ka rfl ?_ | refine d_gT rfl (fun h => ?_) (fun h => ?_) | refine d_gF rfl (fun h => ?_) (fun h => ?_) | (refine l_req rfl ?_ ?_; · exact rq_S6) | (refine l_lk rfl ?_; refine ⟨_, lk_S6, ?_⟩) | refine l_look (l' := _ :: _) rfl rfl ?_ | refine l_look (l' := []) rfl rfl ?_ | refine l_req rfl ?_ ?_)
  rfl
theorem findI1 (s : St) (id : ByteArray) (h : s.sm) (hh : hasM id s.u = true) : ∃ x : Upp, AGood e.P 140 [.box 56 (stRs s), .ro (.str id)] (.tup [.agg [.str x.s, .int .i64 x.w, .hole, .bool x.f], .bool true]) [.box (stTags s), .keep] := by
  have hu := h.u
  have c1 := upAtI s.u rfl id (by omega)
  rw [hh] at c1
  have hil : posM id s.u < s.u.length := by
    unfold hasM at hh
    rw [Bool.and_eq_true, decide_eq_true_eq] at hh
    exact hh.1
  refine ⟨s.u.getD (posM id s.u) zeroU, ?_⟩
  generalize posM id s.u = i at c1 hil ⊢
  have g1 : 0 ≤ (i : Int) ∧ (i : Int) < (s.u.length : Int) := by omega
  refine agood eok (fn := Try.f140) kr_ de_ rfl kr_ ok_S6 ok_S6 ?_
  repeat' (first | refine o_cons ?_ | refine w_ok rfl ?_ | refine w_call rfl (c1) ?_ | refine o_nil ?_ | refine q_then ?_ | refine sq ?_ | refine aw_seq ?_ | refine aw_reg ?_ | refine w_pT rfl ka rfl ?_ | refine w_pF rfl ka rfl ?_ | refine o_y rfl ka ?_ | refine o_nT rfl ka ?_ | refine o_nF rfl ka ?_ | refine o_nU rfl ?_ | refine aw_cT rfl ka ?_ | refine aw_cF rfl ka ?_ | refine o_gT rfl (fun h => ?_) (fun h => ?_) | refine o_gF rfl (fun h => ?_) (fun h => ?_) | refine aw_cond rfl (fun h => ?_) (fun h => ?_) | refine aw_block ?_ | refine aw_skip ?_ | refine aw_ret ?_ | refine q_ret ?_ | refine q_blockN ?_ | refine q_blockR ?_ | refine aw_exit ?_ | refine q_exit ?_ | refine q_blockE ?_ | refine q_blockX de_ ?_ | refine fin_r rfl ?_ | (refine w_req rfl ?_ ?_; · exact rq_S6) | (refine w_lk rfl ?_; refine ⟨_, lk_S6, ?_⟩) | refine w_look (l' := _ :: _) rfl rfl ?_ | refine w_look (l' := []) rfl rfl ?_ | refine w_req rfl ?_ ?_ | refine w_pick rfl (fun b => ?_) | refine l_call rfl (c1) ?_ | refine aw_drw kr_ ?_ | refine d_cons ?_ | refine l_ok rfl ?_ | refine d_nil kr_ ?_ | refine d_y rfl ka ?_ | refine d_nT rfl ka ?_ | refine d_nF rfl ka ?_ | refine d_nU rfl ?_ | refine l_pT rfl ka rfl ?_ | refine l_pF rfl ka rfl ?_ | refine d_gT rfl (fun h => ?_) (fun h => ?_) | refine d_gF rfl (fun h => ?_) (fun h => ?_) | (refine l_req rfl ?_ ?_; · exact rq_S6) | (refine l_lk rfl ?_; refine ⟨_, lk_S6, ?_⟩) | refine l_look (l' := _ :: _) rfl rfl ?_ | refine l_look (l' := []) rfl rfl ?_ | refine l_req rfl ?_ ?_)
  rfl
theorem writeI (s : St) {l' : List Upp} (k n : Int) (id : ByteArray) (d : List UInt8) {c : Nat} (hc : c = d.length) (h : s.sm) (hn : 0 ≤ s.n ∧ s.n < s.a.length) (hul : s.u.length ≤ 10) (hid : id.size ≤ 1048576) (hd : d.length ≤ 1048576)
    (hf : foldOne s.u ⟨s.e, s.n, k, id, n, d⟩ = some l') : AGood e.P 142 [.box 56 (stOs s), .ro (.int .i64 k), .ro (.str id), .ro (.int .i64 n), .ro (.row 1 c (bT d))] (.tup []) [.box (stTs ⟨s.a.set s.n.toNat (putS ⟨s.e, s.n, k, id, n, d⟩), s.b, s.e, s.n + 1, l'⟩), .keep, .keep, .keep, .keep] := by
  subst hc
  have ha := h.a
  have c1 := putRec ⟨s.e, s.n, k, id, n, d⟩ rfl hid hd
  have c2 := foldIn s.u l' rfl ⟨s.e, s.n, k, id, n, d⟩ rfl hul h.d hd hf
  have w1 : IntKind.i64.wrap (s.n + 1) = s.n + 1 := wrap64 (by omega) (by omega)
  generalize hA : s.a.set s.n.toNat (putS ⟨s.e, s.n, k, id, n, d⟩) = A'
  have hl : s.a.length = A'.length := by rw [← hA, List.length_set]
  refine agood eok (fn := Try.f142) kr_ de_ rfl kr_ ok_S6 ok_S6 ?_
  repeat' (first | refine o_cons ?_ | refine w_ok rfl ?_ | refine w_call rfl (c1) ?_ | refine w_call rfl (c2) ?_ | refine o_nil ?_ | refine q_then ?_ | refine sq ?_ | refine aw_seq ?_ | refine aw_reg ?_ | refine w_pT rfl ka rfl ?_ | refine w_pF rfl ka rfl ?_ | refine o_y rfl ka ?_ | refine o_nT rfl ka ?_ | refine o_nF rfl ka ?_ | refine o_nU rfl ?_ | refine aw_cT rfl ka ?_ | refine aw_cF rfl ka ?_ | refine o_gT rfl (fun h => ?_) (fun h => ?_) | refine o_gF rfl (fun h => ?_) (fun h => ?_) | refine aw_cond rfl (fun h => ?_) (fun h => ?_) | refine aw_block ?_ | refine aw_skip ?_ | refine aw_ret ?_ | refine q_ret ?_ | refine q_blockN ?_ | refine q_blockR ?_ | refine aw_exit ?_ | refine q_exit ?_ | refine q_blockE ?_ | refine q_blockX de_ ?_ | refine fin_r rfl ?_ | (refine w_req rfl ?_ ?_; · exact rq_S6) | (refine w_lk rfl ?_; refine ⟨_, lk_S6, ?_⟩) | refine w_look (l' := _ :: _) rfl rfl ?_ | refine w_look (l' := []) rfl rfl ?_ | refine w_req rfl ?_ ?_ | refine w_pick rfl (fun b => ?_) | refine l_call rfl (c1) ?_ | refine l_call rfl (c2) ?_ | refine aw_drw kr_ ?_ | refine d_cons ?_ | refine l_ok rfl ?_ | refine d_nil kr_ ?_ | refine d_y rfl ka ?_ | refine d_nT rfl ka ?_ | refine d_nF rfl ka ?_ | refine d_nU rfl ?_ | refine l_pT rfl ka rfl ?_ | refine l_pF rfl ka rfl ?_ | refine d_gT rfl (fun h => ?_) (fun h => ?_) | refine d_gF rfl (fun h => ?_) (fun h => ?_) | (refine l_req rfl ?_ ?_; · exact rq_S6) | (refine l_lk rfl ?_; refine ⟨_, lk_S6, ?_⟩) | refine l_look (l' := _ :: _) rfl rfl ?_ | refine l_look (l' := []) rfl rfl ?_ | refine l_req rfl ?_ ?_)
  refine fin_n rfl ?_
  rw [w1, hA, hl]
theorem writeS (s : St) {l' : List Upp} (r : Rc) {c : Nat} (hc : c = r.d.length) (h : s.sm) (hn : 0 ≤ s.n ∧ s.n < s.a.length) (hul : s.u.length ≤ 10) (hid : r.s.size ≤ 1048576) (hd : r.d.length ≤ 1048576)
    (hok : recOkM ⟨s.e, s.n, r.k, r.s, r.n, r.d⟩ = true) (hf : oneM s.u ⟨s.e, s.n, r.k, r.s, r.n, r.d⟩ = some l') : AGood e.P 114 [.box 56 (stOs s), r.pa c] (.tup []) [.box (stTs ⟨s.a.set s.n.toNat (putS ⟨s.e, s.n, r.k, r.s, r.n, r.d⟩), s.b, s.e, s.n + 1, l'⟩), keeps] := by
  subst hc
  have ha := h.a
  have c1 := l13Put ⟨s.e, s.n, r.k, r.s, r.n, r.d⟩ rfl hid hd hok
  have c2 := (l14One s.u rfl ⟨s.e, s.n, r.k, r.s, r.n, r.d⟩ rfl (by omega) h.d hd).1 l' hf
  have w1 : IntKind.i64.wrap (s.n + 1) = s.n + 1 := wrap64 (by omega) (by omega)
  generalize hA : s.a.set s.n.toNat (putS ⟨s.e, s.n, r.k, r.s, r.n, r.d⟩) = A'
  have hl : s.a.length = A'.length := by rw [← hA, List.length_set]
  refine agood eok (fn := Try.f114) kr_ de_ rfl kr_ ok_S6 ok_S6 ?_
  repeat' (first | refine o_cons ?_ | refine w_ok rfl ?_ | refine w_call rfl (c1) ?_ | refine w_call rfl (c2) ?_ | refine o_nil ?_ | refine q_then ?_ | refine sq ?_ | refine aw_seq ?_ | refine aw_reg ?_ | refine w_pT rfl ka rfl ?_ | refine w_pF rfl ka rfl ?_ | refine o_y rfl ka ?_ | refine o_nT rfl ka ?_ | refine o_nF rfl ka ?_ | refine o_nU rfl ?_ | refine aw_cT rfl ka ?_ | refine aw_cF rfl ka ?_ | refine o_gT rfl (fun h => ?_) (fun h => ?_) | refine o_gF rfl (fun h => ?_) (fun h => ?_) | refine aw_cond rfl (fun h => ?_) (fun h => ?_) | refine aw_block ?_ | refine aw_skip ?_ | refine aw_ret ?_ | refine q_ret ?_ | refine q_blockN ?_ | refine q_blockR ?_ | refine aw_exit ?_ | refine q_exit ?_ | refine q_blockE ?_ | refine q_blockX de_ ?_ | refine fin_r rfl ?_ | (refine w_req rfl ?_ ?_; · exact rq_S6) | (refine w_lk rfl ?_; refine ⟨_, lk_S6, ?_⟩) | refine w_look (l' := _ :: _) rfl rfl ?_ | refine w_look (l' := []) rfl rfl ?_ | refine w_req rfl ?_ ?_ | refine w_pick rfl (fun b => ?_) | refine l_call rfl (c1) ?_ | refine l_call rfl (c2) ?_ | refine aw_drw kr_ ?_ | refine d_cons ?_ | refine l_ok rfl ?_ | refine d_nil kr_ ?_ | refine d_y rfl ka ?_ | refine d_nT rfl ka ?_ | refine d_nF rfl ka ?_ | refine d_nU rfl ?_ | refine l_pT rfl ka rfl ?_ | refine l_pF rfl ka rfl ?_ | refine d_gT rfl (fun h => ?_) (fun h => ?_) | refine d_gF rfl (fun h => ?_) (fun h => ?_) | (refine l_req rfl ?_ ?_; · exact rq_S6) | (refine l_lk rfl ?_; refine ⟨_, lk_S6, ?_⟩) | refine l_look (l' := _ :: _) rfl rfl ?_ | refine l_look (l' := []) rfl rfl ?_ | refine l_req rfl ?_ ?_)
  refine fin_n rfl ?_
  rw [w1, hA, hl]
end Go.Proofs.Ytbkpmljdmlhmhaa
