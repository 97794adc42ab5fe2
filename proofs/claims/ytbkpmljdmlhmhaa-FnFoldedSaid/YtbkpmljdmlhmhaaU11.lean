import Derived.Test.YtbkpmljdmlhmhaaU10
import Derived.Test.YtbkpmljdmlhmhaaI1
namespace Go.Proofs.Ytbkpmljdmlhmhaa
open Go Go.AM Ty
set_option maxRecDepth 100000
set_option maxHeartbeats 4000000
set_option linter.unusedVariables false
set_option linter.unusedSimpArgs false
attribute [local irreducible] aw aops aopsD wpo wpoL condW guardW thenQ blockQ finQ Le AGood
theorem rq_U11 {p : Prop} (h : p := by first | assumption | exact uT_plain _ | exact rq_) : p := h
theorem lk_U11 {p : Prop} (h : p := by first | exact bT_app _ _ | exact uT_hole rfl side_ | exact uT_back rfl (by simp) side_ | exact uT_el side_ | exact uT_up _ rfl side_ | exact lk_) : p := h
theorem ok_U11 {p : Prop} (h : p := by first | (simp [Tr.okR, Tr.okRL, Tr.plainL, Tr.plain, cells1, Tr.cellB, PB.okRL, PB.okR, bT_plain, sT_plain, oT_plain, nT_plain, uT_plain]; done) | exact ok_) : p := h
theorem insU : InsSays := fun l i s w hi hl => by
  have h := insA (n := l.length) (i := i) (cs := uT l) (us := [.str s, .int .i64 w, .row 1 0 [], .bool false]) hi (by omega)
  have e1 : (uT l).take (i * 4) ++ ([.str s, .int .i64 w, .row 1 0 [], .bool false] ++ (uT l).drop (i * 4)) = uT (l.take i ++ ⟨s, w, [], false⟩ :: l.drop i) := by
    rw [fl_take up_sz, fl_drop up_sz]
    show _ = (l.take i ++ ⟨s, w, [], false⟩ :: l.drop i).flatMap Upp.cells
    rw [List.flatMap_append, List.flatMap_cons]
    rfl
  rw [e1] at h
  exact h (uT_plain _)
theorem delU (l : List Upp) {n : Nat} (hn : n = l.length) {i : Nat} (hi : i < l.length) (hl : l.length ≤ 10) {j : Int} (hj : j = (i : Int) + 1) : AGood e.P 134 [.own (.row 4 n (uT l)), .ro (.int .i64 i), .ro (.int .i64 j)] (.row 4 (l.eraseIdx i).length (uT (l.eraseIdx i))) [.gone, .keep, .keep] := by
  subst hn; subst hj
  have h := delA (m := l.length - 1) (k := i) (cs := uT l) (by omega)
  have e1 : (uT l).take (i * 4) ++ (uT l).drop ((i + 1) * 4) = uT (l.eraseIdx i) := by
    rw [fl_take up_sz, fl_drop up_sz, ← List.flatMap_append, List.eraseIdx_eq_take_drop_succ]
  rw [e1, show l.length - 1 + 1 = l.length by omega] at h
  rw [show (l.eraseIdx i).length = l.length - 1 by rw [List.length_eraseIdx, if_pos hi]]
  exact h (uT_plain _)
theorem foldIn (l l' : List Upp) {n : Nat} (hn : n = l.length) (r : Rc) {c : Nat} (hc : c = r.d.length) (hl : l.length ≤ 10) (hd : ∀ x ∈ l, x.d.length ≤ 1048576) (hr : r.d.length ≤ 1048576) (h : foldOne l r = some l') : AGood e.P 96 [.own (.row 4 n (uT l)), r.pa c] (.tup [.row 4 l'.length (uT l'), .bool true]) [.gone, keeps] := by
  subst hn; subst hc
  have c1 := upAtI l rfl r.s (by omega)
  unfold foldOne at h
  by_cases h1 : r.k = 1
  · have k1 : (r.k == 1) = true := by simpa using h1
    rw [if_pos h1] at h
    split at h
    · cases h
    · rename_i h2
      injection h with h
      subst h
      cases hh : hasM r.s l with
      | true => rw [hh] at h2; exact absurd (Bool.true_or _) h2
      | false =>
        rw [hh] at c1 h2
        have k2 : decide ((l.length : Int) ≥ 10) = false := by simp at h2 ⊢; omega
        have hil := pos_le r.s l
        have c3 := insU l (posM r.s l) r.s r.n hil hl
        have hlen : (l.take (posM r.s l) ++ ⟨r.s, r.n, [], false⟩ :: l.drop (posM r.s l)).length = l.length + 1 := by
          rw [List.length_append, List.length_cons, List.length_take, List.length_drop]; omega
        generalize l.take (posM r.s l) ++ ⟨r.s, r.n, [], false⟩ :: l.drop (posM r.s l) = L at c3 hlen ⊢
        refine agood eok (fn := Try.f96) kr_ de_ rfl kr_ ok_U11 ok_U11 ?_
        repeat' (first | refine o_cons ?_ | refine w_ok rfl ?_ | refine w_call rfl (c1) ?_ | refine w_call rfl (c3) ?_ | refine o_nil ?_ | refine q_then ?_ | refine sq ?_ | refine aw_seq ?_ | refine aw_reg ?_ | refine w_pT rfl ka rfl ?_ | refine w_pF rfl ka rfl ?_ | refine o_y rfl ka ?_ | refine o_nT rfl ka ?_ | refine o_nF rfl ka ?_ | refine o_nU rfl ?_ | refine aw_cT rfl ka ?_ | refine aw_cF rfl ka ?_ | refine o_gT rfl (fun h => ?_) (fun h => ?_) | refine o_gF rfl (fun h => ?_) (fun h => ?_) | refine aw_cond rfl (fun h => ?_) (fun h => ?_) | refine aw_block ?_ | refine aw_skip ?_ | refine aw_ret ?_ | refine q_ret ?_ | refine q_blockN ?_ | refine q_blockR ?_ | refine aw_exit ?_ | refine q_exit ?_ | refine q_blockE ?_ | refine q_blockX de_ ?_ | refine fin_r rfl ?_ | (refine w_req rfl ?_ ?_; · exact rq_U11) | (refine w_lk rfl ?_; refine ⟨_, lk_U11, ?_⟩) | refine w_look (l' := _ :: _) rfl rfl ?_ | refine w_look (l' := []) rfl rfl ?_ | refine w_req rfl ?_ ?_ | refine w_pick rfl (fun b => ?_) | refine l_call rfl (c1) ?_ | refine l_call rfl (c3) ?_ | refine aw_drw kr_ ?_ | refine d_cons ?_ | refine l_ok rfl ?_ | refine d_nil kr_ ?_ | refine d_y rfl ka ?_ | refine d_nT rfl ka ?_ | refine d_nF rfl ka ?_ | refine d_nU rfl ?_ | refine l_pT rfl ka rfl ?_ | refine l_pF rfl ka rfl ?_ | refine d_gT rfl (fun h => ?_) (fun h => ?_) | refine d_gF rfl (fun h => ?_) (fun h => ?_) | (refine l_req rfl ?_ ?_; · exact rq_U11) | (refine l_lk rfl ?_; refine ⟨_, lk_U11, ?_⟩) | refine l_look (l' := _ :: _) rfl rfl ?_ | refine l_look (l' := []) rfl rfl ?_ | refine l_req rfl ?_ ?_)
        rw [hlen]
  · have k1 : (r.k == 1) = false := by simpa using h1
    rw [if_neg h1] at h
    cases hh : hasM r.s l with
    | false => rw [hh, if_pos rfl] at h; cases h
    | true =>
      rw [hh] at c1 h
      rw [if_neg Bool.noConfusion] at h
      have hil : posM r.s l < l.length := by
        unfold hasM at hh
        rw [Bool.and_eq_true, decide_eq_true_eq] at hh
        exact hh.1
      generalize posM r.s l = i at c1 h hil
      have hdi := getD_all hd hil (z := zeroU)
      have g1 : 0 ≤ (i : Int) ∧ (i : Int) < (l.length : Int) := by omega
      by_cases h2 : r.k = 2
      · have k2 : (r.k == 2) = true := by simpa using h2
        rw [if_pos h2] at h
        split at h
        · cases h
        · rename_i h3
          injection h with h
          subst h
          simp only [Bool.or_eq_true, decide_eq_true_eq, not_or] at h3
          obtain ⟨⟨h3, h4⟩, h5⟩ := h3
          have hf : (l.getD i zeroU).f = false := by simpa using h3
          have h4 : r.n = ((l.getD i zeroU).d.length : Int) := by simpa using h4
          have k4 : (l.getD (i : Int).toNat zeroU).f = false := hf
          have k5 : (r.n != ((l.getD (i : Int).toNat zeroU).d.length : Int)) = false := by simpa using h4
          have w1 : IntKind.i64.wrap (((l.getD (i : Int).toNat zeroU).d.length : Int) + (r.d.length : Int)) = (((l.getD i zeroU).d.length + r.d.length : Nat) : Int) := by rw [Int.toNat_natCast, wrap64 (by omega) (by omega)]; omega
          have k6 : decide (IntKind.i64.wrap (((l.getD (i : Int).toNat zeroU).d.length : Int) + (r.d.length : Int)) > (l.getD (i : Int).toNat zeroU).w) = false := by rw [w1]; exact decide_eq_false h5
          have w2 : ((l.getD (i : Int).toNat zeroU).d.length + r.d.length) * 1 ≤ 140737488355328 ∧ (l.getD (i : Int).toNat zeroU).d.length + r.d.length ≤ 140737488355328 := by rw [Int.toNat_natCast]; omega
          refine agood eok (fn := Try.f96) kr_ de_ rfl kr_ ok_U11 ok_U11 ?_
          repeat' (first | refine o_cons ?_ | refine w_ok rfl ?_ | refine w_call rfl (c1) ?_ | refine o_nil ?_ | refine q_then ?_ | refine sq ?_ | refine aw_seq ?_ | refine aw_reg ?_ | refine w_pT rfl ka rfl ?_ | refine w_pF rfl ka rfl ?_ | refine o_y rfl ka ?_ | refine o_nT rfl ka ?_ | refine o_nF rfl ka ?_ | refine o_nU rfl ?_ | refine aw_cT rfl ka ?_ | refine aw_cF rfl ka ?_ | refine o_gT rfl (fun h => ?_) (fun h => ?_) | refine o_gF rfl (fun h => ?_) (fun h => ?_) | refine aw_cond rfl (fun h => ?_) (fun h => ?_) | refine aw_block ?_ | refine aw_skip ?_ | refine aw_ret ?_ | refine q_ret ?_ | refine q_blockN ?_ | refine q_blockR ?_ | refine aw_exit ?_ | refine q_exit ?_ | refine q_blockE ?_ | refine q_blockX de_ ?_ | refine fin_r rfl ?_ | (refine w_req rfl ?_ ?_; · exact rq_U11) | (refine w_lk rfl ?_; refine ⟨_, lk_U11, ?_⟩) | refine w_look (l' := _ :: _) rfl rfl ?_ | refine w_look (l' := []) rfl rfl ?_ | refine w_req rfl ?_ ?_ | refine w_pick rfl (fun b => ?_) | refine l_call rfl (c1) ?_ | refine aw_drw kr_ ?_ | refine d_cons ?_ | refine l_ok rfl ?_ | refine d_nil kr_ ?_ | refine d_y rfl ka ?_ | refine d_nT rfl ka ?_ | refine d_nF rfl ka ?_ | refine d_nU rfl ?_ | refine l_pT rfl ka rfl ?_ | refine l_pF rfl ka rfl ?_ | refine d_gT rfl (fun h => ?_) (fun h => ?_) | refine d_gF rfl (fun h => ?_) (fun h => ?_) | (refine l_req rfl ?_ ?_; · exact rq_U11) | (refine l_lk rfl ?_; refine ⟨_, lk_U11, ?_⟩) | refine l_look (l' := _ :: _) rfl rfl ?_ | refine l_look (l' := []) rfl rfl ?_ | refine l_req rfl ?_ ?_)
          all_goals first
            | exact w2
            | rw [Int.toNat_natCast, List.length_set, hf]
      · have k2 : (r.k == 2) = false := by simpa using h2
        rw [if_neg h2] at h
        by_cases h3 : r.k = 3
        · have k3 : (r.k == 3) = true := by simpa using h3
          rw [if_pos h3] at h
          split at h
          · cases h
          · rename_i h4
            injection h with h
            subst h
            simp only [Bool.or_eq_true, decide_eq_true_eq, not_or] at h4
            obtain ⟨h4, h5⟩ := h4
            have hf : (l.getD i zeroU).f = false := by simpa using h4
            have k4 : (l.getD (i : Int).toNat zeroU).f = false := hf
            have k6 : (((l.getD (i : Int).toNat zeroU).d.length : Int) != (l.getD (i : Int).toNat zeroU).w) = false := by simpa using h5
            refine agood eok (fn := Try.f96) kr_ de_ rfl kr_ ok_U11 ok_U11 ?_
            repeat' (first | refine o_cons ?_ | refine w_ok rfl ?_ | refine w_call rfl (c1) ?_ | refine o_nil ?_ | refine q_then ?_ | refine sq ?_ | refine aw_seq ?_ | refine aw_reg ?_ | refine w_pT rfl ka rfl ?_ | refine w_pF rfl ka rfl ?_ | refine o_y rfl ka ?_ | refine o_nT rfl ka ?_ | refine o_nF rfl ka ?_ | refine o_nU rfl ?_ | refine aw_cT rfl ka ?_ | refine aw_cF rfl ka ?_ | refine o_gT rfl (fun h => ?_) (fun h => ?_) | refine o_gF rfl (fun h => ?_) (fun h => ?_) | refine aw_cond rfl (fun h => ?_) (fun h => ?_) | refine aw_block ?_ | refine aw_skip ?_ | refine aw_ret ?_ | refine q_ret ?_ | refine q_blockN ?_ | refine q_blockR ?_ | refine aw_exit ?_ | refine q_exit ?_ | refine q_blockE ?_ | refine q_blockX de_ ?_ | refine fin_r rfl ?_ | (refine w_req rfl ?_ ?_; · exact rq_U11) | (refine w_lk rfl ?_; refine ⟨_, lk_U11, ?_⟩) | refine w_look (l' := _ :: _) rfl rfl ?_ | refine w_look (l' := []) rfl rfl ?_ | refine w_req rfl ?_ ?_ | refine w_pick rfl (fun b => ?_) | refine l_call rfl (c1) ?_ | refine aw_drw kr_ ?_ | refine d_cons ?_ | refine l_ok rfl ?_ | refine d_nil kr_ ?_ | refine d_y rfl ka ?_ | refine d_nT rfl ka ?_ | refine d_nF rfl ka ?_ | refine d_nU rfl ?_ | refine l_pT rfl ka rfl ?_ | refine l_pF rfl ka rfl ?_ | refine d_gT rfl (fun h => ?_) (fun h => ?_) | refine d_gF rfl (fun h => ?_) (fun h => ?_) | (refine l_req rfl ?_ ?_; · exact rq_U11) | (refine l_lk rfl ?_; refine ⟨_, lk_U11, ?_⟩) | refine l_look (l' := _ :: _) rfl rfl ?_ | refine l_look (l' := []) rfl rfl ?_ | refine l_req rfl ?_ ?_)
            all_goals rw [Int.toNat_natCast, List.length_set]
        · have k3 : (r.k == 3) = false := by simpa using h3
          rw [if_neg h3] at h
          by_cases h4 : r.k = 4
          · have k4 : (r.k == 4) = true := by simpa using h4
            rw [if_pos h4] at h
            injection h with h
            subst h
            have w1 : IntKind.i64.wrap ((i : Int) + 1) = (i : Int) + 1 := wrap64 (by omega) (by omega)
            have c3 := delU l rfl hil hl w1
            refine agood eok (fn := Try.f96) kr_ de_ rfl kr_ ok_U11 ok_U11 ?_
            repeat' (first | refine o_cons ?_ | refine w_ok rfl ?_ | refine w_call rfl (c1) ?_ | refine w_call rfl (c3) ?_ | refine o_nil ?_ | refine q_then ?_ | refine sq ?_ | refine aw_seq ?_ | refine aw_reg ?_ | refine w_pT rfl ka rfl ?_ | refine w_pF rfl ka rfl ?_ | refine o_y rfl ka ?_ | refine o_nT rfl ka ?_ | refine o_nF rfl ka ?_ | refine o_nU rfl ?_ | refine aw_cT rfl ka ?_ | refine aw_cF rfl ka ?_ | refine o_gT rfl (fun h => ?_) (fun h => ?_) | refine o_gF rfl (fun h => ?_) (fun h => ?_) | refine aw_cond rfl (fun h => ?_) (fun h => ?_) | refine aw_block ?_ | refine aw_skip ?_ | refine aw_ret ?_ | refine q_ret ?_ | refine q_blockN ?_ | refine q_blockR ?_ | refine aw_exit ?_ | refine q_exit ?_ | refine q_blockE ?_ | refine q_blockX de_ ?_ | refine fin_r rfl ?_ | (refine w_req rfl ?_ ?_; · exact rq_U11) | (refine w_lk rfl ?_; refine ⟨_, lk_U11, ?_⟩) | refine w_look (l' := _ :: _) rfl rfl ?_ | refine w_look (l' := []) rfl rfl ?_ | refine w_req rfl ?_ ?_ | refine w_pick rfl (fun b => ?_) | refine l_call rfl (c1) ?_ | refine l_call rfl (c3) ?_ | refine aw_drw kr_ ?_ | refine d_cons ?_ | refine l_ok rfl ?_ | refine d_nil kr_ ?_ | refine d_y rfl ka ?_ | refine d_nT rfl ka ?_ | refine d_nF rfl ka ?_ | refine d_nU rfl ?_ | refine l_pT rfl ka rfl ?_ | refine l_pF rfl ka rfl ?_ | refine d_gT rfl (fun h => ?_) (fun h => ?_) | refine d_gF rfl (fun h => ?_) (fun h => ?_) | (refine l_req rfl ?_ ?_; · exact rq_U11) | (refine l_lk rfl ?_; refine ⟨_, lk_U11, ?_⟩) | refine l_look (l' := _ :: _) rfl rfl ?_ | refine l_look (l' := []) rfl rfl ?_ | refine l_req rfl ?_ ?_)
            rfl
          · rw [if_neg h4] at h
            cases h
end Go.Proofs.Ytbkpmljdmlhmhaa
