import Derived.Test.YtbkpmljdmlhmhaaU1
import Derived.Test.YtbkpmljdmlhmhaaE7
namespace Go.Proofs.Ytbkpmljdmlhmhaa
open Go Go.AM Ty
set_option maxRecDepth 100000
set_option maxHeartbeats 4000000
set_option linter.unusedVariables false
set_option linter.unusedSimpArgs false
attribute [local irreducible] aw aops aopsD wpo wpoL condW guardW thenQ blockQ finQ Le AGood
theorem rq_U2 {p : Prop} (h : p := by first | assumption | exact uT_plain _ | exact rT_plain _ | exact rq_) : p := h
theorem lk_U2 {p : Prop} (h : p := by first | exact bT_app _ _ | exact mp_el (f := fun b : UInt8 => Tr.int .u8 (b.toNat : Int)) 0 side_ | exact mp_up (f := fun b : UInt8 => Tr.int .u8 (b.toNat : Int)) side_ | exact zeros_b _ | exact zeros_rc _ | exact zeros_up _ | exact rT_el side_ | exact uT_el side_ | exact rT_up _ rfl side_ | exact uT_up _ rfl side_ | exact lk_) : p := h
theorem ok_U2 {p : Prop} (h : p := by first | (simp [Tr.okR, Tr.okRL, Tr.plainL, Tr.plain, cells1, Tr.cellB, PB.okRL, PB.okR, bT_plain, sT_plain, oT_plain, nT_plain, uT_plain, rT_plain]; done) | exact ok_) : p := h
theorem zeros_fl {α : Type} {c : α → List Tr} {sh : List CK} {z : α} (h : sh.map CK.tr = c z) : ∀ n : Nat, AM.zeros sh n = (List.replicate n z).flatMap c
  | 0 => rfl
  | n + 1 => by
    show sh.map CK.tr ++ AM.zeros sh n = _
    rw [h, zeros_fl h n, List.replicate_succ, List.flatMap_cons]
theorem zeros_rc (n : Nat) : AM.zeros [.sc (.int .i64 0), .sc (.int .i64 0), .sc (.int .i64 0), .sc (.str ⟨#[]⟩), .sc (.int .i64 0), .sl 1] n = rT (List.replicate n zeroR) := zeros_fl (c := Rc.cells) rfl n
theorem zeros_up (n : Nat) : AM.zeros [.sc (.str ⟨#[]⟩), .sc (.int .i64 0), .sl 1, .sc (.bool false)] n = uT (List.replicate n zeroU) := zeros_fl (c := Upp.cells) rfl n
theorem toByteS (l : List UInt8) {n : Nat} (hn : n = l.length) (hl : l.length ≤ 1048576) : AGood e.P 131 [.ro (.row 1 n (bT l))] (.row 1 n (bT l)) [.keep] := by
  subst hn
  refine agood eok (fn := Try.f131) kr_ de_ rfl kr_ ok_U2 ok_U2 ?_
  repeat' (first | refine o_cons ?_ | refine w_ok rfl ?_ | refine o_nil ?_ | refine q_then ?_ | refine sq ?_ | refine aw_seq ?_ | refine aw_reg ?_ | refine w_pT rfl ka rfl ?_ | refine w_pF rfl ka rfl ?_ | refine o_y rfl ka ?_ | refine o_nT rfl ka ?_ | refine o_nF rfl ka ?_ | refine o_nU rfl ?_ | refine aw_cT rfl ka ?_ | refine aw_cF rfl ka ?_ | refine o_gT rfl (fun h => ?_) (fun h => ?_) | refine o_gF rfl (fun h => ?_) (fun h => ?_) | refine aw_cond rfl (fun h => ?_) (fun h => ?_) | refine aw_block ?_ | refine aw_skip ?_ | refine aw_ret ?_ | refine q_ret ?_ | refine q_blockN ?_ | refine q_blockR ?_ | refine aw_exit ?_ | refine q_exit ?_ | refine q_blockE ?_ | refine q_blockX de_ ?_ | refine fin_r rfl ?_ | (refine w_req rfl ?_ ?_; · exact rq_U2) | (refine w_lk rfl ?_; refine ⟨_, lk_U2, ?_⟩) | refine w_look (l' := _ :: _) rfl rfl ?_ | refine w_look (l' := []) rfl rfl ?_ | refine w_req rfl ?_ ?_ | refine w_pick rfl (fun b => ?_))
  refine loop1 (fun i : Nat => ⟨tbl [(0, .ro none 1 l.length (bT l)), (3, .own 8000 0), (4, .int .i64 i)], mbl [(8000, .row 0 0 1 l.length (bT (l.take i ++ List.replicate (l.length - i) 0)))], [.ro (some 0) 1 l.length (bT l)]⟩) (fun i => i ≤ l.length) (fun i => l.length - i) 0 (Nat.zero_le _) ?_ ?_
  · (refine le_of [(8000, 8000)] ?_; repeat' (first | exact trivial | refine an ?_ ?_ | with_reducible rfl | exact bt rfl | exact Or.inl rfl | exact Or.inr rfl | exact Eq.refl _))
    all_goals simp
  intro i hi
  have hlen : (l.take i ++ List.replicate (l.length - i) (0 : UInt8)).length = l.length := by simp; omega
  repeat' (first | refine o_cons ?_ | refine w_ok rfl ?_ | refine o_nil ?_ | refine q_then ?_ | refine sq ?_ | refine aw_seq ?_ | refine aw_reg ?_ | refine w_pT rfl ka rfl ?_ | refine w_pF rfl ka rfl ?_ | refine o_y rfl ka ?_ | refine o_nT rfl ka ?_ | refine o_nF rfl ka ?_ | refine o_nU rfl ?_ | refine aw_cT rfl ka ?_ | refine aw_cF rfl ka ?_ | refine o_gT rfl (fun h => ?_) (fun h => ?_) | refine o_gF rfl (fun h => ?_) (fun h => ?_) | refine aw_cond rfl (fun h => ?_) (fun h => ?_) | refine aw_block ?_ | refine aw_skip ?_ | refine aw_ret ?_ | refine q_ret ?_ | refine q_blockN ?_ | refine q_blockR ?_ | refine aw_exit ?_ | refine q_exit ?_ | refine q_blockE ?_ | refine q_blockX de_ ?_ | refine fin_r rfl ?_ | (refine w_req rfl ?_ ?_; · exact rq_U2) | (refine w_lk rfl ?_; refine ⟨_, lk_U2, ?_⟩) | refine w_look (l' := _ :: _) rfl rfl ?_ | refine w_look (l' := []) rfl rfl ?_ | refine w_req rfl ?_ ?_ | refine w_pick rfl (fun b => ?_))
  · have hil : i < l.length := by (exact side_)
    refine ⟨i + 1, ⟨by omega, by omega⟩, ?_⟩
    (refine le_of [(8000, 8000)] ?_; repeat' (first | exact trivial | refine an ?_ ?_ | with_reducible rfl | exact bt rfl | exact Or.inl rfl | exact Or.inr rfl | exact Eq.refl _))
    all_goals first | exact congrArg bT ((set_step (n := l.length) (z := (0 : UInt8)) hil).resolve_right (by omega)) | (first | omega | (simp; done) | (rw [wrap64] <;> omega) | (simp; omega))
  · have : i = l.length := by (exact side_)
    subst this
    simp
theorem szByteS (l : List UInt8) {n : Nat} (hn : n = l.length) (left : Int) (h0 : 0 ≤ left ∧ left ≤ 1048576) (hl : l.length ≤ 9223372036854775807) : AGood e.P 128 [.ro (.row 1 n (bT l)), .ro (.int .i64 left)] (.int .i64 (szB left l)) [.keep, .keep] := by
  subst hn
  have hw : IntKind.i64.wrap (left - (l.length : Int)) = left - (l.length : Int) := wrap64 (by omega) (by omega)
  refine agood eok (fn := Try.f128) kr_ de_ rfl kr_ ok_U2 ok_U2 ?_
  repeat' (first | refine o_cons ?_ | refine w_ok rfl ?_ | refine o_nil ?_ | refine q_then ?_ | refine sq ?_ | refine aw_seq ?_ | refine aw_reg ?_ | refine w_pT rfl ka rfl ?_ | refine w_pF rfl ka rfl ?_ | refine o_y rfl ka ?_ | refine o_nT rfl ka ?_ | refine o_nF rfl ka ?_ | refine o_nU rfl ?_ | refine aw_cT rfl ka ?_ | refine aw_cF rfl ka ?_ | refine o_gT rfl (fun h => ?_) (fun h => ?_) | refine o_gF rfl (fun h => ?_) (fun h => ?_) | refine aw_cond rfl (fun h => ?_) (fun h => ?_) | refine aw_block ?_ | refine aw_skip ?_ | refine aw_ret ?_ | refine q_ret ?_ | refine q_blockN ?_ | refine q_blockR ?_ | refine aw_exit ?_ | refine q_exit ?_ | refine q_blockE ?_ | refine q_blockX de_ ?_ | refine fin_r rfl ?_ | (refine w_req rfl ?_ ?_; · exact rq_U2) | (refine w_lk rfl ?_; refine ⟨_, lk_U2, ?_⟩) | refine w_look (l' := _ :: _) rfl rfl ?_ | refine w_look (l' := []) rfl rfl ?_ | refine w_req rfl ?_ ?_ | refine w_pick rfl (fun b => ?_))
  · unfold szB; rw [if_pos side_]
  · unfold szB; rw [if_neg side_, hw]
/-! ### records -/
def szRc (left : Int) (r : Rc) : Int := if left - r.s.size < 0 then -1 else szB (left - r.s.size) r.d
theorem szB_le (left : Int) (l : List UInt8) (h : -1 ≤ left) : szB left l ≤ left := by unfold szB; split <;> omega
theorem szRc_takes : Takes szRc (fun r => r.s.size + r.d.length) := fun left r h0 h => by
  unfold szRc at h ⊢
  split at h
  · omega
  · rename_i h1
    rw [if_neg h1]
    have := szB_takes (left - r.s.size) r.d (by omega) h
    simp only
    omega
def rcB (r : Rc) : Prop := bdS r.s ∧ r.d.length ≤ 9223372036854775807
theorem szRec (r : Rc) {c : Nat} (hc : c = r.d.length) (left : Int) (h0 : 0 ≤ left ∧ left ≤ 1048576) (hb : rcB r) : AGood e.P 93 [r.pa c, .ro (.int .i64 left)] (.int .i64 (szRc left r)) [keeps, .keep] := by
  subst hc
  obtain ⟨hb1, hb2⟩ := hb
  unfold bdS at hb1
  have hw : IntKind.i64.wrap (left - (r.s.size : Int)) = left - (r.s.size : Int) := wrap64 (by omega) (by omega)
  unfold szRc
  rcases Int.lt_or_le (left - (r.s.size : Int)) 0 with h | h
  · have k1 : decide (IntKind.i64.wrap (left - (r.s.size : Int)) < 0) = true := by rw [hw]; simpa using h
    rw [if_pos h]
    refine agood eok (fn := Try.f93) kr_ de_ rfl kr_ ok_U2 ok_U2 ?_
    repeat' (first | refine o_cons ?_ | refine w_ok rfl ?_ | refine o_nil ?_ | refine q_then ?_ | refine sq ?_ | refine aw_seq ?_ | refine aw_reg ?_ | refine w_pT rfl ka rfl ?_ | refine w_pF rfl ka rfl ?_ | refine o_y rfl ka ?_ | refine o_nT rfl ka ?_ | refine o_nF rfl ka ?_ | refine o_nU rfl ?_ | refine aw_cT rfl ka ?_ | refine aw_cF rfl ka ?_ | refine o_gT rfl (fun h => ?_) (fun h => ?_) | refine o_gF rfl (fun h => ?_) (fun h => ?_) | refine aw_cond rfl (fun h => ?_) (fun h => ?_) | refine aw_block ?_ | refine aw_skip ?_ | refine aw_ret ?_ | refine q_ret ?_ | refine q_blockN ?_ | refine q_blockR ?_ | refine aw_exit ?_ | refine q_exit ?_ | refine q_blockE ?_ | refine q_blockX de_ ?_ | refine fin_r rfl ?_ | (refine w_req rfl ?_ ?_; · exact rq_U2) | (refine w_lk rfl ?_; refine ⟨_, lk_U2, ?_⟩) | refine w_look (l' := _ :: _) rfl rfl ?_ | refine w_look (l' := []) rfl rfl ?_ | refine w_req rfl ?_ ?_ | refine w_pick rfl (fun b => ?_))
    rfl
  · have k1 : decide (IntKind.i64.wrap (left - (r.s.size : Int)) < 0) = false := by rw [hw]; simpa using h
    rw [if_neg (by omega)]
    have c1 := szByteS r.d rfl (left - (r.s.size : Int)) (by omega) hb2
    rw [← hw] at c1 ⊢
    refine agood eok (fn := Try.f93) kr_ de_ rfl kr_ ok_U2 ok_U2 ?_
    repeat' (first | refine o_cons ?_ | refine w_ok rfl ?_ | refine w_call rfl (c1) ?_ | refine o_nil ?_ | refine q_then ?_ | refine sq ?_ | refine aw_seq ?_ | refine aw_reg ?_ | refine w_pT rfl ka rfl ?_ | refine w_pF rfl ka rfl ?_ | refine o_y rfl ka ?_ | refine o_nT rfl ka ?_ | refine o_nF rfl ka ?_ | refine o_nU rfl ?_ | refine aw_cT rfl ka ?_ | refine aw_cF rfl ka ?_ | refine o_gT rfl (fun h => ?_) (fun h => ?_) | refine o_gF rfl (fun h => ?_) (fun h => ?_) | refine aw_cond rfl (fun h => ?_) (fun h => ?_) | refine aw_block ?_ | refine aw_skip ?_ | refine aw_ret ?_ | refine q_ret ?_ | refine q_blockN ?_ | refine q_blockR ?_ | refine aw_exit ?_ | refine q_exit ?_ | refine q_blockE ?_ | refine q_blockX de_ ?_ | refine fin_r rfl ?_ | (refine w_req rfl ?_ ?_; · exact rq_U2) | (refine w_lk rfl ?_; refine ⟨_, lk_U2, ?_⟩) | refine w_look (l' := _ :: _) rfl rfl ?_ | refine w_look (l' := []) rfl rfl ?_ | refine w_req rfl ?_ ?_ | refine w_pick rfl (fun b => ?_))
    · have : szB (IntKind.i64.wrap (left - (r.s.size : Int))) r.d = -1 := by
        have hh : decide (szB (IntKind.i64.wrap (left - (r.s.size : Int))) r.d < 0) = true := by assumption
        unfold szB at hh ⊢
        split
        · rfl
        · rename_i h2; rw [if_neg h2] at hh; simp at hh; omega
      rw [this]
    · rfl
theorem szRecS (l : List Rc) {n : Nat} (hn : n = l.length) (left : Int) (h0 : 0 ≤ left ∧ left ≤ 1048576) (hl : l.length ≤ 9223372036854775807) (hs : ∀ r ∈ l, rcB r) :
    AGood e.P 49 [.ro (.row 6 n (rT l)), .ro (.int .i64 left)] (.int .i64 (szM szRc left l)) [.keep, .keep] := by
  subst hn
  refine agood eok (fn := Try.f49) kr_ de_ rfl kr_ ok_U2 ok_U2 ?_
  have hw : IntKind.i64.wrap (left - (l.length : Int)) = left - (l.length : Int) := wrap64 (by omega) (by omega)
  repeat' (first | refine o_cons ?_ | refine w_ok rfl ?_ | refine o_nil ?_ | refine q_then ?_ | refine sq ?_ | refine aw_seq ?_ | refine aw_reg ?_ | refine w_pT rfl ka rfl ?_ | refine w_pF rfl ka rfl ?_ | refine o_y rfl ka ?_ | refine o_nT rfl ka ?_ | refine o_nF rfl ka ?_ | refine o_nU rfl ?_ | refine aw_cT rfl ka ?_ | refine aw_cF rfl ka ?_ | refine o_gT rfl (fun h => ?_) (fun h => ?_) | refine o_gF rfl (fun h => ?_) (fun h => ?_) | refine aw_cond rfl (fun h => ?_) (fun h => ?_) | refine aw_block ?_ | refine aw_skip ?_ | refine aw_ret ?_ | refine q_ret ?_ | refine q_blockN ?_ | refine q_blockR ?_ | refine aw_exit ?_ | refine q_exit ?_ | refine q_blockE ?_ | refine q_blockX de_ ?_ | refine fin_r rfl ?_ | (refine w_req rfl ?_ ?_; · exact rq_U2) | (refine w_lk rfl ?_; refine ⟨_, lk_U2, ?_⟩) | refine w_look (l' := _ :: _) rfl rfl ?_ | refine w_look (l' := []) rfl rfl ?_ | refine w_req rfl ?_ ?_ | refine w_pick rfl (fun b => ?_))
  · unfold szM
    rw [if_pos side_]
  refine loop2 (fun (i : Nat) (L : Int) => ⟨tbl [(0, .ro none 6 l.length (rT l)), (1, .int .i64 L), (5, .int .i64 i)], mbl [], [.ro (some 0) 6 l.length (rT l), .int .i64 left]⟩) (fun i L => i ≤ l.length ∧ (0 ≤ L ∧ L ≤ 1048576) ∧ szGo szRc L (l.drop i) = szM szRc left l) (fun i _ => l.length - i) 0 (left - (l.length : Int)) ?_ ?_ ?_
  · refine ⟨Nat.zero_le _, by (exact side_), ?_⟩
    unfold szM
    rw [if_neg side_]
    rfl
  · (refine le_of [] ?_; repeat' (first | exact trivial | refine an ?_ ?_ | with_reducible rfl | exact bt rfl | exact Or.inl rfl | exact Or.inr rfl | exact Eq.refl _))
    exact hw
  rintro i L ⟨hi, hL, hM⟩
  repeat' (first | refine o_cons ?_ | refine w_ok rfl ?_ | refine w_call rfl (szRec (l.getD (i : Int).toNat zeroR) rfl L hL (getD_all hs side_)) ?_ | refine o_nil ?_ | refine q_then ?_ | refine sq ?_ | refine aw_seq ?_ | refine aw_reg ?_ | refine w_pT rfl ka rfl ?_ | refine w_pF rfl ka rfl ?_ | refine o_y rfl ka ?_ | refine o_nT rfl ka ?_ | refine o_nF rfl ka ?_ | refine o_nU rfl ?_ | refine aw_cT rfl ka ?_ | refine aw_cF rfl ka ?_ | refine o_gT rfl (fun h => ?_) (fun h => ?_) | refine o_gF rfl (fun h => ?_) (fun h => ?_) | refine aw_cond rfl (fun h => ?_) (fun h => ?_) | refine aw_block ?_ | refine aw_skip ?_ | refine aw_ret ?_ | refine q_ret ?_ | refine q_blockN ?_ | refine q_blockR ?_ | refine aw_exit ?_ | refine q_exit ?_ | refine q_blockE ?_ | refine q_blockX de_ ?_ | refine fin_r rfl ?_ | (refine w_req rfl ?_ ?_; · exact rq_U2) | (refine w_lk rfl ?_; refine ⟨_, lk_U2, ?_⟩) | refine w_look (l' := _ :: _) rfl rfl ?_ | refine w_look (l' := []) rfl rfl ?_ | refine w_req rfl ?_ ?_ | refine w_pick rfl (fun b => ?_))
  · have hil : i < l.length := by (exact side_)
    have hlt : szRc L (l.getD i zeroR) < 0 := of_decide_eq_true (by assumption : decide (szRc L (l.getD (i : Int).toNat zeroR) < 0) = true)
    rw [szGo_step (z := zeroR) hil, if_pos hlt] at hM
    rw [← hM]
  · have hil : i < l.length := by (exact side_)
    have hge : ¬ szRc L (l.getD i zeroR) < 0 := of_decide_eq_false (by assumption : decide (szRc L (l.getD (i : Int).toNat zeroR) < 0) = false)
    rw [szGo_step (z := zeroR) hil, if_neg hge] at hM
    have hle := szRc_takes L (l.getD i zeroR) hL.1 (by omega)
    refine ⟨i + 1, szRc L (l.getD i zeroR), ⟨⟨hil, ⟨by omega, by omega⟩, hM⟩, by omega⟩, ?_⟩
    (refine le_of [] ?_; repeat' (first | exact trivial | refine an ?_ ?_ | with_reducible rfl | exact bt rfl | exact Or.inl rfl | exact Or.inr rfl | exact Eq.refl _))
    first | omega | (simp; done) | (rw [wrap64] <;> omega) | (simp; omega)
  · have : i = l.length := by (exact side_)
    subst this
    rw [List.drop_length] at hM
    exact r_int hM
theorem toRec (r : Rc) {c : Nat} (hc : c = r.d.length) (hl : r.d.length ≤ 1048576) : AGood e.P 95 [r.pa c] r.tr [keeps] := by
  subst hc
  refine agood eok (fn := Try.f95) kr_ de_ rfl kr_ ok_U2 ok_U2 ?_
  repeat' (first | refine o_cons ?_ | refine w_ok rfl ?_ | refine w_call rfl (toByteS r.d rfl hl) ?_ | refine o_nil ?_ | refine q_then ?_ | refine sq ?_ | refine aw_seq ?_ | refine aw_reg ?_ | refine w_pT rfl ka rfl ?_ | refine w_pF rfl ka rfl ?_ | refine o_y rfl ka ?_ | refine o_nT rfl ka ?_ | refine o_nF rfl ka ?_ | refine o_nU rfl ?_ | refine aw_cT rfl ka ?_ | refine aw_cF rfl ka ?_ | refine o_gT rfl (fun h => ?_) (fun h => ?_) | refine o_gF rfl (fun h => ?_) (fun h => ?_) | refine aw_cond rfl (fun h => ?_) (fun h => ?_) | refine aw_block ?_ | refine aw_skip ?_ | refine aw_ret ?_ | refine q_ret ?_ | refine q_blockN ?_ | refine q_blockR ?_ | refine aw_exit ?_ | refine q_exit ?_ | refine q_blockE ?_ | refine q_blockX de_ ?_ | refine fin_r rfl ?_ | (refine w_req rfl ?_ ?_; · exact rq_U2) | (refine w_lk rfl ?_; refine ⟨_, lk_U2, ?_⟩) | refine w_look (l' := _ :: _) rfl rfl ?_ | refine w_look (l' := []) rfl rfl ?_ | refine w_req rfl ?_ ?_ | refine w_pick rfl (fun b => ?_))
  rfl
theorem toRecS (l : List Rc) {n : Nat} (hn : n = l.length) (hl : l.length ≤ 1048576) (hd : ∀ r ∈ l, r.d.length ≤ 1048576) : AGood e.P 51 [.ro (.row 6 n (rT l))] (.row 6 n (rT l)) [.keep] := by
  subst hn
  refine agood eok (fn := Try.f51) kr_ de_ rfl kr_ ok_U2 ok_U2 ?_
  repeat' (first | refine o_cons ?_ | refine w_ok rfl ?_ | refine o_nil ?_ | refine q_then ?_ | refine sq ?_ | refine aw_seq ?_ | refine aw_reg ?_ | refine w_pT rfl ka rfl ?_ | refine w_pF rfl ka rfl ?_ | refine o_y rfl ka ?_ | refine o_nT rfl ka ?_ | refine o_nF rfl ka ?_ | refine o_nU rfl ?_ | refine aw_cT rfl ka ?_ | refine aw_cF rfl ka ?_ | refine o_gT rfl (fun h => ?_) (fun h => ?_) | refine o_gF rfl (fun h => ?_) (fun h => ?_) | refine aw_cond rfl (fun h => ?_) (fun h => ?_) | refine aw_block ?_ | refine aw_skip ?_ | refine aw_ret ?_ | refine q_ret ?_ | refine q_blockN ?_ | refine q_blockR ?_ | refine aw_exit ?_ | refine q_exit ?_ | refine q_blockE ?_ | refine q_blockX de_ ?_ | refine fin_r rfl ?_ | (refine w_req rfl ?_ ?_; · exact rq_U2) | (refine w_lk rfl ?_; refine ⟨_, lk_U2, ?_⟩) | refine w_look (l' := _ :: _) rfl rfl ?_ | refine w_look (l' := []) rfl rfl ?_ | refine w_req rfl ?_ ?_ | refine w_pick rfl (fun b => ?_))
  refine loop1 (fun i : Nat => ⟨tbl [(0, .ro none 6 l.length (rT l)), (3, .own 8000 0), (4, .int .i64 i)], mbl [(8000, .row 0 0 6 l.length (rT (l.take i ++ List.replicate (l.length - i) zeroR)))], [.ro (some 0) 6 l.length (rT l)]⟩) (fun i => i ≤ l.length) (fun i => l.length - i) 0 (Nat.zero_le _) ?_ ?_
  · (refine le_of [(8000, 8000)] ?_; repeat' (first | exact trivial | refine an ?_ ?_ | with_reducible rfl | exact bt rfl | exact Or.inl rfl | exact Or.inr rfl | exact Eq.refl _))
    all_goals simp
  intro i hi
  have hlen : (l.take i ++ List.replicate (l.length - i) zeroR).length = l.length := by simp; omega
  repeat' (first | refine o_cons ?_ | refine w_ok rfl ?_ | refine w_call rfl (toRec (l.getD (i : Int).toNat zeroR) rfl (getD_all hd side_)) ?_ | refine o_nil ?_ | refine q_then ?_ | refine sq ?_ | refine aw_seq ?_ | refine aw_reg ?_ | refine w_pT rfl ka rfl ?_ | refine w_pF rfl ka rfl ?_ | refine o_y rfl ka ?_ | refine o_nT rfl ka ?_ | refine o_nF rfl ka ?_ | refine o_nU rfl ?_ | refine aw_cT rfl ka ?_ | refine aw_cF rfl ka ?_ | refine o_gT rfl (fun h => ?_) (fun h => ?_) | refine o_gF rfl (fun h => ?_) (fun h => ?_) | refine aw_cond rfl (fun h => ?_) (fun h => ?_) | refine aw_block ?_ | refine aw_skip ?_ | refine aw_ret ?_ | refine q_ret ?_ | refine q_blockN ?_ | refine q_blockR ?_ | refine aw_exit ?_ | refine q_exit ?_ | refine q_blockE ?_ | refine q_blockX de_ ?_ | refine fin_r rfl ?_ | (refine w_req rfl ?_ ?_; · exact rq_U2) | (refine w_lk rfl ?_; refine ⟨_, lk_U2, ?_⟩) | refine w_look (l' := _ :: _) rfl rfl ?_ | refine w_look (l' := []) rfl rfl ?_ | refine w_req rfl ?_ ?_ | refine w_pick rfl (fun b => ?_))
  · have hil : i < l.length := by (exact side_)
    refine ⟨i + 1, ⟨by omega, by omega⟩, ?_⟩
    (refine le_of [(8000, 8000)] ?_; repeat' (first | exact trivial | refine an ?_ ?_ | with_reducible rfl | exact bt rfl | exact Or.inl rfl | exact Or.inr rfl | exact Eq.refl _))
    all_goals first | exact congrArg rT ((set_step (n := l.length) (z := zeroR) hil).resolve_right (by omega)) | (first | omega | (simp; done) | (rw [wrap64] <;> omega) | (simp; omega))
  · have : i = l.length := by (exact side_)
    subst this
    simp
end Go.Proofs.Ytbkpmljdmlhmhaa
