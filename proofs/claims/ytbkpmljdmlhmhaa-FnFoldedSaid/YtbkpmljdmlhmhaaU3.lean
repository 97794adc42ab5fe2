import Derived.Test.YtbkpmljdmlhmhaaU2
namespace Go.Proofs.Ytbkpmljdmlhmhaa
open Go Go.AM Ty
set_option maxRecDepth 100000
set_option maxHeartbeats 4000000
set_option linter.unusedVariables false
set_option linter.unusedSimpArgs false
attribute [local irreducible] aw aops aopsD wpo wpoL condW guardW thenQ blockQ finQ Le AGood
theorem rq_U3 {p : Prop} (h : p := by first | assumption | exact uT_plain _ | exact rT_plain _ | exact rq_) : p := h
theorem lk_U3 {p : Prop} (h : p := by first | exact bT_app _ _ | exact mp_el (f := fun b : UInt8 => Tr.int .u8 (b.toNat : Int)) 0 side_ | exact mp_up (f := fun b : UInt8 => Tr.int .u8 (b.toNat : Int)) side_ | exact zeros_b _ | exact zeros_rc _ | exact zeros_up _ | exact rT_el side_ | exact uT_el side_ | exact rT_up _ rfl side_ | exact uT_up _ rfl side_ | exact lk_) : p := h
theorem ok_U3 {p : Prop} (h : p := by first | (simp [Tr.okR, Tr.okRL, Tr.plainL, Tr.plain, cells1, Tr.cellB, PB.okRL, PB.okR, bT_plain, sT_plain, oT_plain, nT_plain, uT_plain, rT_plain]; done) | exact ok_) : p := h
/-! ### uploads -/
def szUpp (left : Int) (r : Upp) : Int := if left - r.s.size < 0 then -1 else szB (left - r.s.size) r.d
theorem szUpp_takes : Takes szUpp (fun r => r.s.size + r.d.length) := fun left r h0 h => by
  unfold szUpp at h ⊢
  split at h
  · omega
  · rename_i h1
    rw [if_neg h1]
    have := szB_takes (left - r.s.size) r.d (by omega) h
    simp only
    omega
def upB (r : Upp) : Prop := bdS r.s ∧ r.d.length ≤ 9223372036854775807
theorem szUp (r : Upp) {c : Nat} (hc : c = r.d.length) (left : Int) (h0 : 0 ≤ left ∧ left ≤ 1048576) (hb : upB r) : AGood e.P 124 [r.pa c, .ro (.int .i64 left)] (.int .i64 (szUpp left r)) [keep4, .keep] := by
  subst hc
  obtain ⟨hb1, hb2⟩ := hb
  unfold bdS at hb1
  have hw : IntKind.i64.wrap (left - (r.s.size : Int)) = left - (r.s.size : Int) := wrap64 (by omega) (by omega)
  unfold szUpp
  rcases Int.lt_or_le (left - (r.s.size : Int)) 0 with h | h
  · have k1 : decide (IntKind.i64.wrap (left - (r.s.size : Int)) < 0) = true := by rw [hw]; simpa using h
    rw [if_pos h]
    refine agood eok (fn := Try.f124) kr_ de_ rfl kr_ ok_U3 ok_U3 ?_
    repeat' (first | refine o_cons ?_ | refine w_ok rfl ?_ | refine o_nil ?_ | refine q_then ?_ | refine sq ?_ | refine aw_seq ?_ | refine aw_reg ?_ | refine w_pT rfl ka rfl ?_ | refine w_pF rfl ka rfl ?_ | refine o_y rfl ka ?_ | refine o_nT rfl ka ?_ | refine o_nF rfl ka ?_ | refine o_nU rfl ?_ | refine aw_cT rfl ka ?_ | refine aw_cF rfl ka ?_ | refine o_gT rfl (fun h => ?_) (fun h => ?_) | refine o_gF rfl (fun h => ?_) (fun h => ?_) | refine aw_cond rfl (fun h => ?_) (fun h => ?_) | refine aw_block ?_ | refine aw_skip ?_ | refine aw_ret ?_ | refine q_ret ?_ | refine q_blockN ?_ | refine q_blockR ?_ | refine aw_exit ?_ | refine q_exit ?_ | refine q_blockE ?_ | refine q_blockX de_ ?_ | refine fin_r rfl ?_ | (refine w_req rfl ?_ ?_; · exact rq_U3) | (refine w_lk rfl ?_; refine ⟨_, lk_U3, ?_⟩) | refine w_look (l' := _ :: _) rfl rfl ?_ | refine w_look (l' := []) rfl rfl ?_ | refine w_req rfl ?_ ?_ | refine w_pick rfl (fun b => ?_))
    rfl
  · have k1 : decide (IntKind.i64.wrap (left - (r.s.size : Int)) < 0) = false := by rw [hw]; simpa using h
    rw [if_neg (by omega)]
    have c1 := szByteS r.d rfl (left - (r.s.size : Int)) (by omega) hb2
    rw [← hw] at c1 ⊢
    refine agood eok (fn := Try.f124) kr_ de_ rfl kr_ ok_U3 ok_U3 ?_
    repeat' (first | refine o_cons ?_ | refine w_ok rfl ?_ | refine w_call rfl (c1) ?_ | refine o_nil ?_ | refine q_then ?_ | refine sq ?_ | refine aw_seq ?_ | refine aw_reg ?_ | refine w_pT rfl ka rfl ?_ | refine w_pF rfl ka rfl ?_ | refine o_y rfl ka ?_ | refine o_nT rfl ka ?_ | refine o_nF rfl ka ?_ | refine o_nU rfl ?_ | refine aw_cT rfl ka ?_ | refine aw_cF rfl ka ?_ | refine o_gT rfl (fun h => ?_) (fun h => ?_) | refine o_gF rfl (fun h => ?_) (fun h => ?_) | refine aw_cond rfl (fun h => ?_) (fun h => ?_) | refine aw_block ?_ | refine aw_skip ?_ | refine aw_ret ?_ | refine q_ret ?_ | refine q_blockN ?_ | refine q_blockR ?_ | refine aw_exit ?_ | refine q_exit ?_ | refine q_blockE ?_ | refine q_blockX de_ ?_ | refine fin_r rfl ?_ | (refine w_req rfl ?_ ?_; · exact rq_U3) | (refine w_lk rfl ?_; refine ⟨_, lk_U3, ?_⟩) | refine w_look (l' := _ :: _) rfl rfl ?_ | refine w_look (l' := []) rfl rfl ?_ | refine w_req rfl ?_ ?_ | refine w_pick rfl (fun b => ?_))
    · have : szB (IntKind.i64.wrap (left - (r.s.size : Int))) r.d = -1 := by
        have hh : decide (szB (IntKind.i64.wrap (left - (r.s.size : Int))) r.d < 0) = true := by assumption
        unfold szB at hh ⊢
        split
        · rfl
        · rename_i h2; rw [if_neg h2] at hh; simp at hh; omega
      rw [this]
    · rfl
theorem szUpS (l : List Upp) {n : Nat} (hn : n = l.length) (left : Int) (h0 : 0 ≤ left ∧ left ≤ 1048576) (hl : l.length ≤ 9223372036854775807) (hs : ∀ r ∈ l, upB r) :
    AGood e.P 86 [.ro (.row 4 n (uT l)), .ro (.int .i64 left)] (.int .i64 (szM szUpp left l)) [.keep, .keep] := by
  subst hn
  refine agood eok (fn := Try.f86) kr_ de_ rfl kr_ ok_U3 ok_U3 ?_
  have hw : IntKind.i64.wrap (left - (l.length : Int)) = left - (l.length : Int) := wrap64 (by omega) (by omega)
  repeat' (first | refine o_cons ?_ | refine w_ok rfl ?_ | refine o_nil ?_ | refine q_then ?_ | refine sq ?_ | refine aw_seq ?_ | refine aw_reg ?_ | refine w_pT rfl ka rfl ?_ | refine w_pF rfl ka rfl ?_ | refine o_y rfl ka ?_ | refine o_nT rfl ka ?_ | refine o_nF rfl ka ?_ | refine o_nU rfl ?_ | refine aw_cT rfl ka ?_ | refine aw_cF rfl ka ?_ | refine o_gT rfl (fun h => ?_) (fun h => ?_) | refine o_gF rfl (fun h => ?_) (fun h => ?_) | refine aw_cond rfl (fun h => ?_) (fun h => ?_) | refine aw_block ?_ | refine aw_skip ?_ | refine aw_ret ?_ | refine q_ret ?_ | refine q_blockN ?_ | refine q_blockR ?_ | refine aw_exit ?_ | refine q_exit ?_ | refine q_blockE ?_ | refine q_blockX de_ ?_ | refine fin_r rfl ?_ | (refine w_req rfl ?_ ?_; · exact rq_U3) | (refine w_lk rfl ?_; refine ⟨_, lk_U3, ?_⟩) | refine w_look (l' := _ :: _) rfl rfl ?_ | refine w_look (l' := []) rfl rfl ?_ | refine w_req rfl ?_ ?_ | refine w_pick rfl (fun b => ?_))
  · unfold szM
    rw [if_pos side_]
  refine loop2 (fun (i : Nat) (L : Int) => ⟨tbl [(0, .ro none 4 l.length (uT l)), (1, .int .i64 L), (5, .int .i64 i)], mbl [], [.ro (some 0) 4 l.length (uT l), .int .i64 left]⟩) (fun i L => i ≤ l.length ∧ (0 ≤ L ∧ L ≤ 1048576) ∧ szGo szUpp L (l.drop i) = szM szUpp left l) (fun i _ => l.length - i) 0 (left - (l.length : Int)) ?_ ?_ ?_
  · refine ⟨Nat.zero_le _, by (exact side_), ?_⟩
    unfold szM
    rw [if_neg side_]
    rfl
  · (refine le_of [] ?_; repeat' (first | exact trivial | refine an ?_ ?_ | with_reducible rfl | exact bt rfl | exact Or.inl rfl | exact Or.inr rfl | exact Eq.refl _))
    exact hw
  rintro i L ⟨hi, hL, hM⟩
  repeat' (first | refine o_cons ?_ | refine w_ok rfl ?_ | refine w_call rfl (szUp (l.getD (i : Int).toNat zeroU) rfl L hL (getD_all hs side_)) ?_ | refine o_nil ?_ | refine q_then ?_ | refine sq ?_ | refine aw_seq ?_ | refine aw_reg ?_ | refine w_pT rfl ka rfl ?_ | refine w_pF rfl ka rfl ?_ | refine o_y rfl ka ?_ | refine o_nT rfl ka ?_ | refine o_nF rfl ka ?_ | refine o_nU rfl ?_ | refine aw_cT rfl ka ?_ | refine aw_cF rfl ka ?_ | refine o_gT rfl (fun h => ?_) (fun h => ?_) | refine o_gF rfl (fun h => ?_) (fun h => ?_) | refine aw_cond rfl (fun h => ?_) (fun h => ?_) | refine aw_block ?_ | refine aw_skip ?_ | refine aw_ret ?_ | refine q_ret ?_ | refine q_blockN ?_ | refine q_blockR ?_ | refine aw_exit ?_ | refine q_exit ?_ | refine q_blockE ?_ | refine q_blockX de_ ?_ | refine fin_r rfl ?_ | (refine w_req rfl ?_ ?_; · exact rq_U3) | (refine w_lk rfl ?_; refine ⟨_, lk_U3, ?_⟩) | refine w_look (l' := _ :: _) rfl rfl ?_ | refine w_look (l' := []) rfl rfl ?_ | refine w_req rfl ?_ ?_ | refine w_pick rfl (fun b => ?_))
  · have hil : i < l.length := by (exact side_)
    have hlt : szUpp L (l.getD i zeroU) < 0 := of_decide_eq_true (by assumption : decide (szUpp L (l.getD (i : Int).toNat zeroU) < 0) = true)
    rw [szGo_step (z := zeroU) hil, if_pos hlt] at hM
    rw [← hM]
  · have hil : i < l.length := by (exact side_)
    have hge : ¬ szUpp L (l.getD i zeroU) < 0 := of_decide_eq_false (by assumption : decide (szUpp L (l.getD (i : Int).toNat zeroU) < 0) = false)
    rw [szGo_step (z := zeroU) hil, if_neg hge] at hM
    have hle := szUpp_takes L (l.getD i zeroU) hL.1 (by omega)
    refine ⟨i + 1, szUpp L (l.getD i zeroU), ⟨⟨hil, ⟨by omega, by omega⟩, hM⟩, by omega⟩, ?_⟩
    (refine le_of [] ?_; repeat' (first | exact trivial | refine an ?_ ?_ | with_reducible rfl | exact bt rfl | exact Or.inl rfl | exact Or.inr rfl | exact Eq.refl _))
    first | omega | (simp; done) | (rw [wrap64] <;> omega) | (simp; omega)
  · have : i = l.length := by (exact side_)
    subst this
    rw [List.drop_length] at hM
    exact r_int hM
theorem toUp (r : Upp) {c : Nat} (hc : c = r.d.length) (hl : r.d.length ≤ 1048576) : AGood e.P 125 [r.pa c] r.tr [keep4] := by
  subst hc
  refine agood eok (fn := Try.f125) kr_ de_ rfl kr_ ok_U3 ok_U3 ?_
  repeat' (first | refine o_cons ?_ | refine w_ok rfl ?_ | refine w_call rfl (toByteS r.d rfl hl) ?_ | refine o_nil ?_ | refine q_then ?_ | refine sq ?_ | refine aw_seq ?_ | refine aw_reg ?_ | refine w_pT rfl ka rfl ?_ | refine w_pF rfl ka rfl ?_ | refine o_y rfl ka ?_ | refine o_nT rfl ka ?_ | refine o_nF rfl ka ?_ | refine o_nU rfl ?_ | refine aw_cT rfl ka ?_ | refine aw_cF rfl ka ?_ | refine o_gT rfl (fun h => ?_) (fun h => ?_) | refine o_gF rfl (fun h => ?_) (fun h => ?_) | refine aw_cond rfl (fun h => ?_) (fun h => ?_) | refine aw_block ?_ | refine aw_skip ?_ | refine aw_ret ?_ | refine q_ret ?_ | refine q_blockN ?_ | refine q_blockR ?_ | refine aw_exit ?_ | refine q_exit ?_ | refine q_blockE ?_ | refine q_blockX de_ ?_ | refine fin_r rfl ?_ | (refine w_req rfl ?_ ?_; · exact rq_U3) | (refine w_lk rfl ?_; refine ⟨_, lk_U3, ?_⟩) | refine w_look (l' := _ :: _) rfl rfl ?_ | refine w_look (l' := []) rfl rfl ?_ | refine w_req rfl ?_ ?_ | refine w_pick rfl (fun b => ?_))
  rfl
theorem toUpS (l : List Upp) {n : Nat} (hn : n = l.length) (hl : l.length ≤ 1048576) (hd : ∀ r ∈ l, r.d.length ≤ 1048576) : AGood e.P 88 [.ro (.row 4 n (uT l))] (.row 4 n (uT l)) [.keep] := by
  subst hn
  refine agood eok (fn := Try.f88) kr_ de_ rfl kr_ ok_U3 ok_U3 ?_
  repeat' (first | refine o_cons ?_ | refine w_ok rfl ?_ | refine o_nil ?_ | refine q_then ?_ | refine sq ?_ | refine aw_seq ?_ | refine aw_reg ?_ | refine w_pT rfl ka rfl ?_ | refine w_pF rfl ka rfl ?_ | refine o_y rfl ka ?_ | refine o_nT rfl ka ?_ | refine o_nF rfl ka ?_ | refine o_nU rfl ?_ | refine aw_cT rfl ka ?_ | refine aw_cF rfl ka ?_ | refine o_gT rfl (fun h => ?_) (fun h => ?_) | refine o_gF rfl (fun h => ?_) (fun h => ?_) | refine aw_cond rfl (fun h => ?_) (fun h => ?_) | refine aw_block ?_ | refine aw_skip ?_ | refine aw_ret ?_ | refine q_ret ?_ | refine q_blockN ?_ | refine q_blockR ?_ | refine aw_exit ?_ | refine q_exit ?_ | refine q_blockE ?_ | refine q_blockX de_ ?_ | refine fin_r rfl ?_ | (refine w_req rfl ?_ ?_; · exact rq_U3) | (refine w_lk rfl ?_; refine ⟨_, lk_U3, ?_⟩) | refine w_look (l' := _ :: _) rfl rfl ?_ | refine w_look (l' := []) rfl rfl ?_ | refine w_req rfl ?_ ?_ | refine w_pick rfl (fun b => ?_))
  refine loop1 (fun i : Nat => ⟨tbl [(0, .ro none 4 l.length (uT l)), (3, .own 8000 0), (4, .int .i64 i)], mbl [(8000, .row 0 0 4 l.length (uT (l.take i ++ List.replicate (l.length - i) zeroU)))], [.ro (some 0) 4 l.length (uT l)]⟩) (fun i => i ≤ l.length) (fun i => l.length - i) 0 (Nat.zero_le _) ?_ ?_
  · (refine le_of [(8000, 8000)] ?_; repeat' (first | exact trivial | refine an ?_ ?_ | with_reducible rfl | exact bt rfl | exact Or.inl rfl | exact Or.inr rfl | exact Eq.refl _))
    all_goals simp
  intro i hi
  have hlen : (l.take i ++ List.replicate (l.length - i) zeroU).length = l.length := by simp; omega
  repeat' (first | refine o_cons ?_ | refine w_ok rfl ?_ | refine w_call rfl (toUp (l.getD (i : Int).toNat zeroU) rfl (getD_all hd side_)) ?_ | refine o_nil ?_ | refine q_then ?_ | refine sq ?_ | refine aw_seq ?_ | refine aw_reg ?_ | refine w_pT rfl ka rfl ?_ | refine w_pF rfl ka rfl ?_ | refine o_y rfl ka ?_ | refine o_nT rfl ka ?_ | refine o_nF rfl ka ?_ | refine o_nU rfl ?_ | refine aw_cT rfl ka ?_ | refine aw_cF rfl ka ?_ | refine o_gT rfl (fun h => ?_) (fun h => ?_) | refine o_gF rfl (fun h => ?_) (fun h => ?_) | refine aw_cond rfl (fun h => ?_) (fun h => ?_) | refine aw_block ?_ | refine aw_skip ?_ | refine aw_ret ?_ | refine q_ret ?_ | refine q_blockN ?_ | refine q_blockR ?_ | refine aw_exit ?_ | refine q_exit ?_ | refine q_blockE ?_ | refine q_blockX de_ ?_ | refine fin_r rfl ?_ | (refine w_req rfl ?_ ?_; · exact rq_U3) | (refine w_lk rfl ?_; refine ⟨_, lk_U3, ?_⟩) | refine w_look (l' := _ :: _) rfl rfl ?_ | refine w_look (l' := []) rfl rfl ?_ | refine w_req rfl ?_ ?_ | refine w_pick rfl (fun b => ?_))
  · have hil : i < l.length := by (exact side_)
    refine ⟨i + 1, ⟨by omega, by omega⟩, ?_⟩
    (refine le_of [(8000, 8000)] ?_; repeat' (first | exact trivial | refine an ?_ ?_ | with_reducible rfl | exact bt rfl | exact Or.inl rfl | exact Or.inr rfl | exact Eq.refl _))
    all_goals first | exact congrArg uT ((set_step (n := l.length) (z := zeroU) hil).resolve_right (by omega)) | (first | omega | (simp; done) | (rw [wrap64] <;> omega) | (simp; omega))
  · have : i = l.length := by (exact side_)
    subst this
    simp
end Go.Proofs.Ytbkpmljdmlhmhaa
