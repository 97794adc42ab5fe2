import Derived.Test.YtbkpmljdmlhmhaaU6
import Derived.Test.YtbkpmljdmlhmhaaX6
namespace Go.Proofs.Ytbkpmljdmlhmhaa
open Go Go.AM Ty
set_option maxRecDepth 100000
set_option maxHeartbeats 4000000
set_option linter.unusedVariables false
set_option linter.unusedSimpArgs false
attribute [local irreducible] aw aops aopsD wpo wpoL condW guardW thenQ blockQ finQ Le AGood
theorem rq_U7 {p : Prop} (h : p := by first | assumption | exact uT_plain _ | exact rq_) : p := h
theorem lk_U7 {p : Prop} (h : p := by first | exact bT_app _ _ | exact e7 | exact uT_hole rfl side_ | exact uT_back rfl (by simp) side_ | exact uT_el side_ | exact uT_up _ rfl side_ | exact lk_) : p := h
theorem ok_U7 {p : Prop} (h : p := by first | (simp [Tr.okR, Tr.okRL, Tr.plainL, Tr.plain, cells1, Tr.cellB, PB.okRL, PB.okR, bT_plain, sT_plain, oT_plain, nT_plain, uT_plain]; done) | exact ok_) : p := h
/-- what a record makes of uploads -/
def oneM (l : List Upp) (r : Rc) : Option (List Upp) :=
  if r.k = 1 then (if (idxM l r.s).isNone && decide (l.length < 10) then some (makeM l ⟨r.s, r.n, [], false⟩) else none)
  else match idxM l r.s with
    | none => none
    | some i =>
      if r.k = 2 then (if (l.getD i zeroU).f || decide (r.n ≠ (l.getD i zeroU).d.length) || decide (((l.getD i zeroU).d.length + r.d.length : Nat) > (l.getD i zeroU).w) then none else some (l.set i ⟨(l.getD i zeroU).s, (l.getD i zeroU).w, (l.getD i zeroU).d ++ r.d, (l.getD i zeroU).f⟩))
      else if r.k = 3 then (if (l.getD i zeroU).f || decide (((l.getD i zeroU).d.length : Int) ≠ (l.getD i zeroU).w) then none else some (l.set i ⟨(l.getD i zeroU).s, (l.getD i zeroU).w, (l.getD i zeroU).d, true⟩))
      else if r.k = 4 then some (l.eraseIdx i) else none
/-- of what the reference answers where it doesn't fit, no more is asked -/
def noFit (t : Tr) : Prop := t = .tag 0 ∨ ∃ l : List Upp, t = .row 4 l.length (uT l)
def OneSays (l : List Upp) (r : Rc) (n c : Nat) : Prop :=
  (∀ l', oneM l r = some l' → AGood e.P 94 [.ro (.row 4 n (uT l)), r.pa c] (.tup [.row 4 l'.length (uT l'), .bool true]) [.keep, keeps]) ∧
  (oneM l r = none → ∃ t, noFit t ∧ AGood e.P 94 [.ro (.row 4 n (uT l)), r.pa c] (.tup [t, .bool false]) [.keep, keeps])
theorem uT_cut {l : List Upp} {i : Nat} (hi : i < l.length) {a b m : Nat} (ha : a = i) (hb : b = i + 1) (hm : m = l.length - (i + 1)) : (uT l).take (a * 4) ++ ((uT l).drop (b * 4)).take (m * 4) = uT (l.eraseIdx i) := by
  subst ha; subst hb; subst hm
  have : (l.drop (a + 1)).take (l.length - (a + 1)) = l.drop (a + 1) := List.take_of_length_le (by simp)
  rw [fl_take up_sz, fl_drop up_sz, fl_take up_sz, this, ← List.flatMap_append, List.eraseIdx_eq_take_drop_succ]
theorem l14One (l : List Upp) {n : Nat} (hn : n = l.length) (r : Rc) {c : Nat} (hc : c = r.d.length) (hl : l.length ≤ 1048576) (hd : ∀ x ∈ l, x.d.length ≤ 1048576) (hr : r.d.length ≤ 1048576) : OneSays l r n c := by
  subst hn; subst hc
  have c1 := l14At l rfl r.s (by omega)
  have c2 := copyUps l rfl (by omega) (fun x hx => by have := hd x hx; omega)
  have c3 := l14Make l rfl ⟨r.s, r.n, [], false⟩ rfl (by omega) (fun x hx => by have := hd x hx; omega)
  have hml := makeM_len l ⟨r.s, r.n, [], false⟩
  unfold OneSays oneM
  by_cases h1 : r.k = 1
  · have k1 : (r.k == 1) = true := by simpa using h1
    rw [if_pos h1]
    cases hx : idxM l r.s with
    | none =>
      rw [hx] at c1
      have c1 : AGood e.P 87 [.ro (.row 4 l.length (uT l)), .ro (.str r.s)] (.int .i64 (-1)) [.keep, .keep] := c1
      by_cases h2 : l.length < 10
      · have k2 : decide ((l.length : Int) < 10) = true := by simp; omega
        rw [if_pos (by simp [h2])]
        refine ⟨fun l' hl' => ?_, fun h => by cases h⟩
        injection hl' with hl'
        subst hl'
        refine agood eok (fn := Try.f94) kr_ de_ rfl kr_ ok_U7 ok_U7 ?_
        repeat' (first | refine o_cons ?_ | refine w_ok rfl ?_ | refine w_call rfl (c1) ?_ | refine w_call rfl (c3) ?_ | refine o_nil ?_ | refine q_then ?_ | refine sq ?_ | refine aw_seq ?_ | refine aw_reg ?_ | refine w_pT rfl ka rfl ?_ | refine w_pF rfl ka rfl ?_ | refine o_y rfl ka ?_ | refine o_nT rfl ka ?_ | refine o_nF rfl ka ?_ | refine o_nU rfl ?_ | refine aw_cT rfl ka ?_ | refine aw_cF rfl ka ?_ | refine o_gT rfl (fun h => ?_) (fun h => ?_) | refine o_gF rfl (fun h => ?_) (fun h => ?_) | refine aw_cond rfl (fun h => ?_) (fun h => ?_) | refine aw_block ?_ | refine aw_skip ?_ | refine aw_ret ?_ | refine q_ret ?_ | refine q_blockN ?_ | refine q_blockR ?_ | refine aw_exit ?_ | refine q_exit ?_ | refine q_blockE ?_ | refine q_blockX de_ ?_ | refine fin_r rfl ?_ | (refine w_req rfl ?_ ?_; · exact rq_U7) | (refine w_lk rfl ?_; refine ⟨_, lk_U7, ?_⟩) | refine w_look (l' := _ :: _) rfl rfl ?_ | refine w_look (l' := []) rfl rfl ?_ | refine w_req rfl ?_ ?_ | refine w_pick rfl (fun b => ?_))
        rw [hml, k2]
      · have k2 : decide ((l.length : Int) < 10) = false := by simp; omega
        rw [if_neg (by simp [h2])]
        refine ⟨fun l' hl' => (by cases hl'), fun _ => ⟨_, .inr ⟨makeM l ⟨r.s, r.n, [], false⟩, rfl⟩, ?_⟩⟩
        refine agood eok (fn := Try.f94) kr_ de_ rfl kr_ ok_U7 ok_U7 ?_
        repeat' (first | refine o_cons ?_ | refine w_ok rfl ?_ | refine w_call rfl (c1) ?_ | refine w_call rfl (c3) ?_ | refine o_nil ?_ | refine q_then ?_ | refine sq ?_ | refine aw_seq ?_ | refine aw_reg ?_ | refine w_pT rfl ka rfl ?_ | refine w_pF rfl ka rfl ?_ | refine o_y rfl ka ?_ | refine o_nT rfl ka ?_ | refine o_nF rfl ka ?_ | refine o_nU rfl ?_ | refine aw_cT rfl ka ?_ | refine aw_cF rfl ka ?_ | refine o_gT rfl (fun h => ?_) (fun h => ?_) | refine o_gF rfl (fun h => ?_) (fun h => ?_) | refine aw_cond rfl (fun h => ?_) (fun h => ?_) | refine aw_block ?_ | refine aw_skip ?_ | refine aw_ret ?_ | refine q_ret ?_ | refine q_blockN ?_ | refine q_blockR ?_ | refine aw_exit ?_ | refine q_exit ?_ | refine q_blockE ?_ | refine q_blockX de_ ?_ | refine fin_r rfl ?_ | (refine w_req rfl ?_ ?_; · exact rq_U7) | (refine w_lk rfl ?_; refine ⟨_, lk_U7, ?_⟩) | refine w_look (l' := _ :: _) rfl rfl ?_ | refine w_look (l' := []) rfl rfl ?_ | refine w_req rfl ?_ ?_ | refine w_pick rfl (fun b => ?_))
        rw [hml, k2]
    | some i =>
      rw [hx] at c1
      have c1 : AGood e.P 87 [.ro (.row 4 l.length (uT l)), .ro (.str r.s)] (.int .i64 (i : Int)) [.keep, .keep] := c1
      have k2 : decide ((i : Int) < 0) = false := by simp
      rw [if_neg (by simp)]
      refine ⟨fun l' hl' => (by cases hl'), fun _ => ⟨_, .inr ⟨makeM l ⟨r.s, r.n, [], false⟩, rfl⟩, ?_⟩⟩
      refine agood eok (fn := Try.f94) kr_ de_ rfl kr_ ok_U7 ok_U7 ?_
      repeat' (first | refine o_cons ?_ | refine w_ok rfl ?_ | refine w_call rfl (c1) ?_ | refine w_call rfl (c3) ?_ | refine o_nil ?_ | refine q_then ?_ | refine sq ?_ | refine aw_seq ?_ | refine aw_reg ?_ | refine w_pT rfl ka rfl ?_ | refine w_pF rfl ka rfl ?_ | refine o_y rfl ka ?_ | refine o_nT rfl ka ?_ | refine o_nF rfl ka ?_ | refine o_nU rfl ?_ | refine aw_cT rfl ka ?_ | refine aw_cF rfl ka ?_ | refine o_gT rfl (fun h => ?_) (fun h => ?_) | refine o_gF rfl (fun h => ?_) (fun h => ?_) | refine aw_cond rfl (fun h => ?_) (fun h => ?_) | refine aw_block ?_ | refine aw_skip ?_ | refine aw_ret ?_ | refine q_ret ?_ | refine q_blockN ?_ | refine q_blockR ?_ | refine aw_exit ?_ | refine q_exit ?_ | refine q_blockE ?_ | refine q_blockX de_ ?_ | refine fin_r rfl ?_ | (refine w_req rfl ?_ ?_; · exact rq_U7) | (refine w_lk rfl ?_; refine ⟨_, lk_U7, ?_⟩) | refine w_look (l' := _ :: _) rfl rfl ?_ | refine w_look (l' := []) rfl rfl ?_ | refine w_req rfl ?_ ?_ | refine w_pick rfl (fun b => ?_))
      rw [hml]
  · have k1 : (r.k == 1) = false := by simpa using h1
    rw [if_neg h1]
    cases hx : idxM l r.s with
    | none =>
      rw [hx] at c1
      have c1 : AGood e.P 87 [.ro (.row 4 l.length (uT l)), .ro (.str r.s)] (.int .i64 (-1)) [.keep, .keep] := c1
      refine ⟨fun l' hl' => (by simp at hl'), fun _ => ⟨_, .inl rfl, ?_⟩⟩
      refine agood eok (fn := Try.f94) kr_ de_ rfl kr_ ok_U7 ok_U7 ?_
      repeat' (first | refine o_cons ?_ | refine w_ok rfl ?_ | refine w_call rfl (c1) ?_ | refine o_nil ?_ | refine q_then ?_ | refine sq ?_ | refine aw_seq ?_ | refine aw_reg ?_ | refine w_pT rfl ka rfl ?_ | refine w_pF rfl ka rfl ?_ | refine o_y rfl ka ?_ | refine o_nT rfl ka ?_ | refine o_nF rfl ka ?_ | refine o_nU rfl ?_ | refine aw_cT rfl ka ?_ | refine aw_cF rfl ka ?_ | refine o_gT rfl (fun h => ?_) (fun h => ?_) | refine o_gF rfl (fun h => ?_) (fun h => ?_) | refine aw_cond rfl (fun h => ?_) (fun h => ?_) | refine aw_block ?_ | refine aw_skip ?_ | refine aw_ret ?_ | refine q_ret ?_ | refine q_blockN ?_ | refine q_blockR ?_ | refine aw_exit ?_ | refine q_exit ?_ | refine q_blockE ?_ | refine q_blockX de_ ?_ | refine fin_r rfl ?_ | (refine w_req rfl ?_ ?_; · exact rq_U7) | (refine w_lk rfl ?_; refine ⟨_, lk_U7, ?_⟩) | refine w_look (l' := _ :: _) rfl rfl ?_ | refine w_look (l' := []) rfl rfl ?_ | refine w_req rfl ?_ ?_ | refine w_pick rfl (fun b => ?_))
      rfl
    | some i =>
      rw [hx] at c1
      have c1 : AGood e.P 87 [.ro (.row 4 l.length (uT l)), .ro (.str r.s)] (.int .i64 (i : Int)) [.keep, .keep] := c1
      have k2 : decide ((i : Int) < 0) = false := by simp
      have hil := idx_lt hx
      have hdi := getD_all hd hil (z := zeroU)
      have g1 : 0 ≤ (i : Int) ∧ (i : Int) < (l.length : Int) := by omega
      by_cases h2 : r.k = 2
      · have k3 : (r.k == 2) = true := by simpa using h2
        simp only [if_pos h2]
        cases hf : (l.getD i zeroU).f with
        | true =>
          have k4 : (l.getD (i : Int).toNat zeroU).f = true := hf
          simp only [Bool.true_or, if_true]
          refine ⟨fun l' hl' => (by cases hl'), fun _ => ⟨_, .inl rfl, ?_⟩⟩
          refine agood eok (fn := Try.f94) kr_ de_ rfl kr_ ok_U7 ok_U7 ?_
          repeat' (first | refine o_cons ?_ | refine w_ok rfl ?_ | refine w_call rfl (c1) ?_ | refine w_call rfl (c2) ?_ | refine o_nil ?_ | refine q_then ?_ | refine sq ?_ | refine aw_seq ?_ | refine aw_reg ?_ | refine w_pT rfl ka rfl ?_ | refine w_pF rfl ka rfl ?_ | refine o_y rfl ka ?_ | refine o_nT rfl ka ?_ | refine o_nF rfl ka ?_ | refine o_nU rfl ?_ | refine aw_cT rfl ka ?_ | refine aw_cF rfl ka ?_ | refine o_gT rfl (fun h => ?_) (fun h => ?_) | refine o_gF rfl (fun h => ?_) (fun h => ?_) | refine aw_cond rfl (fun h => ?_) (fun h => ?_) | refine aw_block ?_ | refine aw_skip ?_ | refine aw_ret ?_ | refine q_ret ?_ | refine q_blockN ?_ | refine q_blockR ?_ | refine aw_exit ?_ | refine q_exit ?_ | refine q_blockE ?_ | refine q_blockX de_ ?_ | refine fin_r rfl ?_ | (refine w_req rfl ?_ ?_; · exact rq_U7) | (refine w_lk rfl ?_; refine ⟨_, lk_U7, ?_⟩) | refine w_look (l' := _ :: _) rfl rfl ?_ | refine w_look (l' := []) rfl rfl ?_ | refine w_req rfl ?_ ?_ | refine w_pick rfl (fun b => ?_) | refine l_call rfl (c1) ?_ | refine l_call rfl (c2) ?_ | refine aw_drw kr_ ?_ | refine d_cons ?_ | refine l_ok rfl ?_ | refine d_nil kr_ ?_ | refine d_y rfl ka ?_ | refine d_nT rfl ka ?_ | refine d_nF rfl ka ?_ | refine d_nU rfl ?_ | refine l_pT rfl ka rfl ?_ | refine l_pF rfl ka rfl ?_ | refine d_gT rfl (fun h => ?_) (fun h => ?_) | refine d_gF rfl (fun h => ?_) (fun h => ?_) | (refine l_req rfl ?_ ?_; · exact rq_U7) | (refine l_lk rfl ?_; refine ⟨_, lk_U7, ?_⟩) | refine l_look (l' := _ :: _) rfl rfl ?_ | refine l_look (l' := []) rfl rfl ?_ | refine l_req rfl ?_ ?_)
          rfl
        | false =>
          have k4 : (l.getD (i : Int).toNat zeroU).f = false := hf
          simp only [Bool.false_or]
          by_cases h3 : r.n = ((l.getD i zeroU).d.length : Int)
          · have k5 : (r.n != ((l.getD (i : Int).toNat zeroU).d.length : Int)) = false := by simpa using h3
            have w1 : IntKind.i64.wrap (r.n + (r.d.length : Int)) = (((l.getD i zeroU).d.length + r.d.length : Nat) : Int) := by rw [h3, wrap64 (by omega) (by omega)]; omega
            by_cases h4 : (((l.getD i zeroU).d.length + r.d.length : Nat) : Int) > (l.getD i zeroU).w
            · have k6 : decide (IntKind.i64.wrap (r.n + (r.d.length : Int)) > (l.getD (i : Int).toNat zeroU).w) = true := by rw [w1]; exact decide_eq_true h4
              rw [if_pos (by simp only [Bool.or_eq_true, decide_eq_true_eq]; exact .inr h4)]
              refine ⟨fun l' hl' => (by cases hl'), fun _ => ⟨_, .inl rfl, ?_⟩⟩
              refine agood eok (fn := Try.f94) kr_ de_ rfl kr_ ok_U7 ok_U7 ?_
              repeat' (first | refine o_cons ?_ | refine w_ok rfl ?_ | refine w_call rfl (c1) ?_ | refine w_call rfl (c2) ?_ | refine o_nil ?_ | refine q_then ?_ | refine sq ?_ | refine aw_seq ?_ | refine aw_reg ?_ | refine w_pT rfl ka rfl ?_ | refine w_pF rfl ka rfl ?_ | refine o_y rfl ka ?_ | refine o_nT rfl ka ?_ | refine o_nF rfl ka ?_ | refine o_nU rfl ?_ | refine aw_cT rfl ka ?_ | refine aw_cF rfl ka ?_ | refine o_gT rfl (fun h => ?_) (fun h => ?_) | refine o_gF rfl (fun h => ?_) (fun h => ?_) | refine aw_cond rfl (fun h => ?_) (fun h => ?_) | refine aw_block ?_ | refine aw_skip ?_ | refine aw_ret ?_ | refine q_ret ?_ | refine q_blockN ?_ | refine q_blockR ?_ | refine aw_exit ?_ | refine q_exit ?_ | refine q_blockE ?_ | refine q_blockX de_ ?_ | refine fin_r rfl ?_ | (refine w_req rfl ?_ ?_; · exact rq_U7) | (refine w_lk rfl ?_; refine ⟨_, lk_U7, ?_⟩) | refine w_look (l' := _ :: _) rfl rfl ?_ | refine w_look (l' := []) rfl rfl ?_ | refine w_req rfl ?_ ?_ | refine w_pick rfl (fun b => ?_) | refine l_call rfl (c1) ?_ | refine l_call rfl (c2) ?_ | refine aw_drw kr_ ?_ | refine d_cons ?_ | refine l_ok rfl ?_ | refine d_nil kr_ ?_ | refine d_y rfl ka ?_ | refine d_nT rfl ka ?_ | refine d_nF rfl ka ?_ | refine d_nU rfl ?_ | refine l_pT rfl ka rfl ?_ | refine l_pF rfl ka rfl ?_ | refine d_gT rfl (fun h => ?_) (fun h => ?_) | refine d_gF rfl (fun h => ?_) (fun h => ?_) | (refine l_req rfl ?_ ?_; · exact rq_U7) | (refine l_lk rfl ?_; refine ⟨_, lk_U7, ?_⟩) | refine l_look (l' := _ :: _) rfl rfl ?_ | refine l_look (l' := []) rfl rfl ?_ | refine l_req rfl ?_ ?_)
              rfl
            · have k6 : decide (IntKind.i64.wrap (r.n + (r.d.length : Int)) > (l.getD (i : Int).toNat zeroU).w) = false := by rw [w1]; exact decide_eq_false h4
              rw [if_neg (by simp only [Bool.or_eq_true, decide_eq_true_eq]; rintro (h | h); exact h h3; exact h4 h)]
              refine ⟨fun l' hl' => ?_, fun h => by cases h⟩
              injection hl' with hl'
              subst hl'
              have w2 : ((l.getD (i : Int).toNat zeroU).d.length + r.d.length) * 1 ≤ 140737488355328 ∧ (l.getD (i : Int).toNat zeroU).d.length + r.d.length ≤ 140737488355328 := by rw [Int.toNat_natCast]; omega
              refine agood eok (fn := Try.f94) kr_ de_ rfl kr_ ok_U7 ok_U7 ?_
              repeat' (first | refine o_cons ?_ | refine w_ok rfl ?_ | refine w_call rfl (c1) ?_ | refine w_call rfl (c2) ?_ | refine o_nil ?_ | refine q_then ?_ | refine sq ?_ | refine aw_seq ?_ | refine aw_reg ?_ | refine w_pT rfl ka rfl ?_ | refine w_pF rfl ka rfl ?_ | refine o_y rfl ka ?_ | refine o_nT rfl ka ?_ | refine o_nF rfl ka ?_ | refine o_nU rfl ?_ | refine aw_cT rfl ka ?_ | refine aw_cF rfl ka ?_ | refine o_gT rfl (fun h => ?_) (fun h => ?_) | refine o_gF rfl (fun h => ?_) (fun h => ?_) | refine aw_cond rfl (fun h => ?_) (fun h => ?_) | refine aw_block ?_ | refine aw_skip ?_ | refine aw_ret ?_ | refine q_ret ?_ | refine q_blockN ?_ | refine q_blockR ?_ | refine aw_exit ?_ | refine q_exit ?_ | refine q_blockE ?_ | refine q_blockX de_ ?_ | refine fin_r rfl ?_ | (refine w_req rfl ?_ ?_; · exact rq_U7) | (refine w_lk rfl ?_; refine ⟨_, lk_U7, ?_⟩) | refine w_look (l' := _ :: _) rfl rfl ?_ | refine w_look (l' := []) rfl rfl ?_ | refine w_req rfl ?_ ?_ | refine w_pick rfl (fun b => ?_) | refine l_call rfl (c1) ?_ | refine l_call rfl (c2) ?_ | refine aw_drw kr_ ?_ | refine d_cons ?_ | refine l_ok rfl ?_ | refine d_nil kr_ ?_ | refine d_y rfl ka ?_ | refine d_nT rfl ka ?_ | refine d_nF rfl ka ?_ | refine d_nU rfl ?_ | refine l_pT rfl ka rfl ?_ | refine l_pF rfl ka rfl ?_ | refine d_gT rfl (fun h => ?_) (fun h => ?_) | refine d_gF rfl (fun h => ?_) (fun h => ?_) | (refine l_req rfl ?_ ?_; · exact rq_U7) | (refine l_lk rfl ?_; refine ⟨_, lk_U7, ?_⟩) | refine l_look (l' := _ :: _) rfl rfl ?_ | refine l_look (l' := []) rfl rfl ?_ | refine l_req rfl ?_ ?_)
              all_goals first
                | exact w2
                | rw [Int.toNat_natCast, List.length_set, hf]
          · have k5 : (r.n != ((l.getD (i : Int).toNat zeroU).d.length : Int)) = true := by simpa using h3
            rw [if_pos (by simp only [Bool.or_eq_true, decide_eq_true_eq]; exact .inl h3)]
            refine ⟨fun l' hl' => (by cases hl'), fun _ => ⟨_, .inl rfl, ?_⟩⟩
            refine agood eok (fn := Try.f94) kr_ de_ rfl kr_ ok_U7 ok_U7 ?_
            repeat' (first | refine o_cons ?_ | refine w_ok rfl ?_ | refine w_call rfl (c1) ?_ | refine w_call rfl (c2) ?_ | refine o_nil ?_ | refine q_then ?_ | refine sq ?_ | refine aw_seq ?_ | refine aw_reg ?_ | refine w_pT rfl ka rfl ?_ | refine w_pF rfl ka rfl ?_ | refine o_y rfl ka ?_ | refine o_nT rfl ka ?_ | refine o_nF rfl ka ?_ | refine o_nU rfl ?_ | refine aw_cT rfl ka ?_ | refine aw_cF rfl ka ?_ | refine o_gT rfl (fun h => ?_) (fun h => ?_) | refine o_gF rfl (fun h => ?_) (fun h => ?_) | refine aw_cond rfl (fun h => ?_) (fun h => ?_) | refine aw_block ?_ | refine aw_skip ?_ | refine aw_ret ?_ | refine q_ret ?_ | refine q_blockN ?_ | refine q_blockR ?_ | refine aw_exit ?_ | refine q_exit ?_ | refine q_blockE ?_ | refine q_blockX de_ ?_ | refine fin_r rfl ?_ | (refine w_req rfl ?_ ?_; · exact rq_U7) | (refine w_lk rfl ?_; refine ⟨_, lk_U7, ?_⟩) | refine w_look (l' := _ :: _) rfl rfl ?_ | refine w_look (l' := []) rfl rfl ?_ | refine w_req rfl ?_ ?_ | refine w_pick rfl (fun b => ?_) | refine l_call rfl (c1) ?_ | refine l_call rfl (c2) ?_ | refine aw_drw kr_ ?_ | refine d_cons ?_ | refine l_ok rfl ?_ | refine d_nil kr_ ?_ | refine d_y rfl ka ?_ | refine d_nT rfl ka ?_ | refine d_nF rfl ka ?_ | refine d_nU rfl ?_ | refine l_pT rfl ka rfl ?_ | refine l_pF rfl ka rfl ?_ | refine d_gT rfl (fun h => ?_) (fun h => ?_) | refine d_gF rfl (fun h => ?_) (fun h => ?_) | (refine l_req rfl ?_ ?_; · exact rq_U7) | (refine l_lk rfl ?_; refine ⟨_, lk_U7, ?_⟩) | refine l_look (l' := _ :: _) rfl rfl ?_ | refine l_look (l' := []) rfl rfl ?_ | refine l_req rfl ?_ ?_)
            rfl
      · have k3 : (r.k == 2) = false := by simpa using h2
        simp only [if_neg h2]
        by_cases h3 : r.k = 3
        · have k4 : (r.k == 3) = true := by simpa using h3
          simp only [if_pos h3]
          cases hf : (l.getD i zeroU).f with
          | true =>
            have k5 : (l.getD (i : Int).toNat zeroU).f = true := hf
            simp only [Bool.true_or, if_true]
            refine ⟨fun l' hl' => (by cases hl'), fun _ => ⟨_, .inl rfl, ?_⟩⟩
            refine agood eok (fn := Try.f94) kr_ de_ rfl kr_ ok_U7 ok_U7 ?_
            repeat' (first | refine o_cons ?_ | refine w_ok rfl ?_ | refine w_call rfl (c1) ?_ | refine w_call rfl (c2) ?_ | refine o_nil ?_ | refine q_then ?_ | refine sq ?_ | refine aw_seq ?_ | refine aw_reg ?_ | refine w_pT rfl ka rfl ?_ | refine w_pF rfl ka rfl ?_ | refine o_y rfl ka ?_ | refine o_nT rfl ka ?_ | refine o_nF rfl ka ?_ | refine o_nU rfl ?_ | refine aw_cT rfl ka ?_ | refine aw_cF rfl ka ?_ | refine o_gT rfl (fun h => ?_) (fun h => ?_) | refine o_gF rfl (fun h => ?_) (fun h => ?_) | refine aw_cond rfl (fun h => ?_) (fun h => ?_) | refine aw_block ?_ | refine aw_skip ?_ | refine aw_ret ?_ | refine q_ret ?_ | refine q_blockN ?_ | refine q_blockR ?_ | refine aw_exit ?_ | refine q_exit ?_ | refine q_blockE ?_ | refine q_blockX de_ ?_ | refine fin_r rfl ?_ | (refine w_req rfl ?_ ?_; · exact rq_U7) | (refine w_lk rfl ?_; refine ⟨_, lk_U7, ?_⟩) | refine w_look (l' := _ :: _) rfl rfl ?_ | refine w_look (l' := []) rfl rfl ?_ | refine w_req rfl ?_ ?_ | refine w_pick rfl (fun b => ?_) | refine l_call rfl (c1) ?_ | refine l_call rfl (c2) ?_ | refine aw_drw kr_ ?_ | refine d_cons ?_ | refine l_ok rfl ?_ | refine d_nil kr_ ?_ | refine d_y rfl ka ?_ | refine d_nT rfl ka ?_ | refine d_nF rfl ka ?_ | refine d_nU rfl ?_ | refine l_pT rfl ka rfl ?_ | refine l_pF rfl ka rfl ?_ | refine d_gT rfl (fun h => ?_) (fun h => ?_) | refine d_gF rfl (fun h => ?_) (fun h => ?_) | (refine l_req rfl ?_ ?_; · exact rq_U7) | (refine l_lk rfl ?_; refine ⟨_, lk_U7, ?_⟩) | refine l_look (l' := _ :: _) rfl rfl ?_ | refine l_look (l' := []) rfl rfl ?_ | refine l_req rfl ?_ ?_)
            rfl
          | false =>
            have k5 : (l.getD (i : Int).toNat zeroU).f = false := hf
            simp only [Bool.false_or]
            by_cases h4 : ((l.getD i zeroU).d.length : Int) = (l.getD i zeroU).w
            · have k6 : (((l.getD (i : Int).toNat zeroU).d.length : Int) != (l.getD (i : Int).toNat zeroU).w) = false := by simpa using h4
              rw [if_neg (by simpa using h4)]
              refine ⟨fun l' hl' => ?_, fun h => by cases h⟩
              injection hl' with hl'
              subst hl'
              refine agood eok (fn := Try.f94) kr_ de_ rfl kr_ ok_U7 ok_U7 ?_
              repeat' (first | refine o_cons ?_ | refine w_ok rfl ?_ | refine w_call rfl (c1) ?_ | refine w_call rfl (c2) ?_ | refine o_nil ?_ | refine q_then ?_ | refine sq ?_ | refine aw_seq ?_ | refine aw_reg ?_ | refine w_pT rfl ka rfl ?_ | refine w_pF rfl ka rfl ?_ | refine o_y rfl ka ?_ | refine o_nT rfl ka ?_ | refine o_nF rfl ka ?_ | refine o_nU rfl ?_ | refine aw_cT rfl ka ?_ | refine aw_cF rfl ka ?_ | refine o_gT rfl (fun h => ?_) (fun h => ?_) | refine o_gF rfl (fun h => ?_) (fun h => ?_) | refine aw_cond rfl (fun h => ?_) (fun h => ?_) | refine aw_block ?_ | refine aw_skip ?_ | refine aw_ret ?_ | refine q_ret ?_ | refine q_blockN ?_ | refine q_blockR ?_ | refine aw_exit ?_ | refine q_exit ?_ | refine q_blockE ?_ | refine q_blockX de_ ?_ | refine fin_r rfl ?_ | (refine w_req rfl ?_ ?_; · exact rq_U7) | (refine w_lk rfl ?_; refine ⟨_, lk_U7, ?_⟩) | refine w_look (l' := _ :: _) rfl rfl ?_ | refine w_look (l' := []) rfl rfl ?_ | refine w_req rfl ?_ ?_ | refine w_pick rfl (fun b => ?_) | refine l_call rfl (c1) ?_ | refine l_call rfl (c2) ?_ | refine aw_drw kr_ ?_ | refine d_cons ?_ | refine l_ok rfl ?_ | refine d_nil kr_ ?_ | refine d_y rfl ka ?_ | refine d_nT rfl ka ?_ | refine d_nF rfl ka ?_ | refine d_nU rfl ?_ | refine l_pT rfl ka rfl ?_ | refine l_pF rfl ka rfl ?_ | refine d_gT rfl (fun h => ?_) (fun h => ?_) | refine d_gF rfl (fun h => ?_) (fun h => ?_) | (refine l_req rfl ?_ ?_; · exact rq_U7) | (refine l_lk rfl ?_; refine ⟨_, lk_U7, ?_⟩) | refine l_look (l' := _ :: _) rfl rfl ?_ | refine l_look (l' := []) rfl rfl ?_ | refine l_req rfl ?_ ?_)
              rw [Int.toNat_natCast, List.length_set]
            · have k6 : (((l.getD (i : Int).toNat zeroU).d.length : Int) != (l.getD (i : Int).toNat zeroU).w) = true := by simpa using h4
              rw [if_pos (by simpa using h4)]
              refine ⟨fun l' hl' => (by cases hl'), fun _ => ⟨_, .inl rfl, ?_⟩⟩
              refine agood eok (fn := Try.f94) kr_ de_ rfl kr_ ok_U7 ok_U7 ?_
              repeat' (first | refine o_cons ?_ | refine w_ok rfl ?_ | refine w_call rfl (c1) ?_ | refine w_call rfl (c2) ?_ | refine o_nil ?_ | refine q_then ?_ | refine sq ?_ | refine aw_seq ?_ | refine aw_reg ?_ | refine w_pT rfl ka rfl ?_ | refine w_pF rfl ka rfl ?_ | refine o_y rfl ka ?_ | refine o_nT rfl ka ?_ | refine o_nF rfl ka ?_ | refine o_nU rfl ?_ | refine aw_cT rfl ka ?_ | refine aw_cF rfl ka ?_ | refine o_gT rfl (fun h => ?_) (fun h => ?_) | refine o_gF rfl (fun h => ?_) (fun h => ?_) | refine aw_cond rfl (fun h => ?_) (fun h => ?_) | refine aw_block ?_ | refine aw_skip ?_ | refine aw_ret ?_ | refine q_ret ?_ | refine q_blockN ?_ | refine q_blockR ?_ | refine aw_exit ?_ | refine q_exit ?_ | refine q_blockE ?_ | refine q_blockX de_ ?_ | refine fin_r rfl ?_ | (refine w_req rfl ?_ ?_; · exact rq_U7) | (refine w_lk rfl ?_; refine ⟨_, lk_U7, ?_⟩) | refine w_look (l' := _ :: _) rfl rfl ?_ | refine w_look (l' := []) rfl rfl ?_ | refine w_req rfl ?_ ?_ | refine w_pick rfl (fun b => ?_) | refine l_call rfl (c1) ?_ | refine l_call rfl (c2) ?_ | refine aw_drw kr_ ?_ | refine d_cons ?_ | refine l_ok rfl ?_ | refine d_nil kr_ ?_ | refine d_y rfl ka ?_ | refine d_nT rfl ka ?_ | refine d_nF rfl ka ?_ | refine d_nU rfl ?_ | refine l_pT rfl ka rfl ?_ | refine l_pF rfl ka rfl ?_ | refine d_gT rfl (fun h => ?_) (fun h => ?_) | refine d_gF rfl (fun h => ?_) (fun h => ?_) | (refine l_req rfl ?_ ?_; · exact rq_U7) | (refine l_lk rfl ?_; refine ⟨_, lk_U7, ?_⟩) | refine l_look (l' := _ :: _) rfl rfl ?_ | refine l_look (l' := []) rfl rfl ?_ | refine l_req rfl ?_ ?_)
              rfl
        · have k4 : (r.k == 3) = false := by simpa using h3
          simp only [if_neg h3]
          by_cases h4 : r.k = 4
          · have k5 : (r.k == 4) = true := by simpa using h4
            simp only [if_pos h4]
            refine ⟨fun l' hl' => ?_, fun h => by cases h⟩
            injection hl' with hl'
            subst hl'
            have w1 : IntKind.i64.wrap ((i : Int) + 1) = ((i + 1 : Nat) : Int) := wrap64 (by omega) (by omega)
            have e7 : (uT l).take ((i : Int).toNat * 4) ++ ((uT l).drop ((IntKind.i64.wrap ((i : Int) + 1)).toNat * 4)).take ((((l.length : Int)).toNat - (IntKind.i64.wrap ((i : Int) + 1)).toNat) * 4) = uT (l.eraseIdx i) := uT_cut hil rfl (by rw [w1]; rfl) (by rw [w1]; omega)
            refine agood eok (fn := Try.f94) kr_ de_ rfl kr_ ok_U7 ok_U7 ?_
            repeat' (first | refine o_cons ?_ | refine w_ok rfl ?_ | refine w_call rfl (c1) ?_ | refine w_call rfl (c2) ?_ | refine o_nil ?_ | refine q_then ?_ | refine sq ?_ | refine aw_seq ?_ | refine aw_reg ?_ | refine w_pT rfl ka rfl ?_ | refine w_pF rfl ka rfl ?_ | refine o_y rfl ka ?_ | refine o_nT rfl ka ?_ | refine o_nF rfl ka ?_ | refine o_nU rfl ?_ | refine aw_cT rfl ka ?_ | refine aw_cF rfl ka ?_ | refine o_gT rfl (fun h => ?_) (fun h => ?_) | refine o_gF rfl (fun h => ?_) (fun h => ?_) | refine aw_cond rfl (fun h => ?_) (fun h => ?_) | refine aw_block ?_ | refine aw_skip ?_ | refine aw_ret ?_ | refine q_ret ?_ | refine q_blockN ?_ | refine q_blockR ?_ | refine aw_exit ?_ | refine q_exit ?_ | refine q_blockE ?_ | refine q_blockX de_ ?_ | refine fin_r rfl ?_ | (refine w_req rfl ?_ ?_; · exact rq_U7) | (refine w_lk rfl ?_; refine ⟨_, lk_U7, ?_⟩) | refine w_look (l' := _ :: _) rfl rfl ?_ | refine w_look (l' := []) rfl rfl ?_ | refine w_req rfl ?_ ?_ | refine w_pick rfl (fun b => ?_) | refine l_call rfl (c1) ?_ | refine l_call rfl (c2) ?_ | refine aw_drw kr_ ?_ | refine d_cons ?_ | refine l_ok rfl ?_ | refine d_nil kr_ ?_ | refine d_y rfl ka ?_ | refine d_nT rfl ka ?_ | refine d_nF rfl ka ?_ | refine d_nU rfl ?_ | refine l_pT rfl ka rfl ?_ | refine l_pF rfl ka rfl ?_ | refine d_gT rfl (fun h => ?_) (fun h => ?_) | refine d_gF rfl (fun h => ?_) (fun h => ?_) | (refine l_req rfl ?_ ?_; · exact rq_U7) | (refine l_lk rfl ?_; refine ⟨_, lk_U7, ?_⟩) | refine l_look (l' := _ :: _) rfl rfl ?_ | refine l_look (l' := []) rfl rfl ?_ | refine l_req rfl ?_ ?_)
            have hq : (i : Int).toNat - Int.toNat 0 + ((l.length : Int).toNat - (IntKind.i64.wrap ((i : Int) + 1)).toNat) = (l.eraseIdx i).length := by
              rw [w1, List.length_eraseIdx_of_lt hil]; simp only [Int.toNat_natCast, Int.toNat_zero]; omega
            rw [hq]
          · have k5 : (r.k == 4) = false := by simpa using h4
            simp only [if_neg h4]
            refine ⟨fun l' hl' => (by cases hl'), fun _ => ⟨_, .inl rfl, ?_⟩⟩
            refine agood eok (fn := Try.f94) kr_ de_ rfl kr_ ok_U7 ok_U7 ?_
            repeat' (first | refine o_cons ?_ | refine w_ok rfl ?_ | refine w_call rfl (c1) ?_ | refine w_call rfl (c2) ?_ | refine o_nil ?_ | refine q_then ?_ | refine sq ?_ | refine aw_seq ?_ | refine aw_reg ?_ | refine w_pT rfl ka rfl ?_ | refine w_pF rfl ka rfl ?_ | refine o_y rfl ka ?_ | refine o_nT rfl ka ?_ | refine o_nF rfl ka ?_ | refine o_nU rfl ?_ | refine aw_cT rfl ka ?_ | refine aw_cF rfl ka ?_ | refine o_gT rfl (fun h => ?_) (fun h => ?_) | refine o_gF rfl (fun h => ?_) (fun h => ?_) | refine aw_cond rfl (fun h => ?_) (fun h => ?_) | refine aw_block ?_ | refine aw_skip ?_ | refine aw_ret ?_ | refine q_ret ?_ | refine q_blockN ?_ | refine q_blockR ?_ | refine aw_exit ?_ | refine q_exit ?_ | refine q_blockE ?_ | refine q_blockX de_ ?_ | refine fin_r rfl ?_ | (refine w_req rfl ?_ ?_; · exact rq_U7) | (refine w_lk rfl ?_; refine ⟨_, lk_U7, ?_⟩) | refine w_look (l' := _ :: _) rfl rfl ?_ | refine w_look (l' := []) rfl rfl ?_ | refine w_req rfl ?_ ?_ | refine w_pick rfl (fun b => ?_) | refine l_call rfl (c1) ?_ | refine l_call rfl (c2) ?_ | refine aw_drw kr_ ?_ | refine d_cons ?_ | refine l_ok rfl ?_ | refine d_nil kr_ ?_ | refine d_y rfl ka ?_ | refine d_nT rfl ka ?_ | refine d_nF rfl ka ?_ | refine d_nU rfl ?_ | refine l_pT rfl ka rfl ?_ | refine l_pF rfl ka rfl ?_ | refine d_gT rfl (fun h => ?_) (fun h => ?_) | refine d_gF rfl (fun h => ?_) (fun h => ?_) | (refine l_req rfl ?_ ?_; · exact rq_U7) | (refine l_lk rfl ?_; refine ⟨_, lk_U7, ?_⟩) | refine l_look (l' := _ :: _) rfl rfl ?_ | refine l_look (l' := []) rfl rfl ?_ | refine l_req rfl ?_ ?_)
            rfl
end Go.Proofs.Ytbkpmljdmlhmhaa
