import Derived.Test.YtbkpmljdmlhmhaaE5
namespace Go.Proofs.Ytbkpmljdmlhmhaa
open Go Go.AM Ty
set_option maxRecDepth 100000
set_option maxHeartbeats 4000000
set_option linter.unusedVariables false
set_option linter.unusedSimpArgs false
attribute [local irreducible] aw aops aopsD wpo wpoL condW guardW thenQ blockQ finQ Le AGood
theorem rq_U1 {p : Prop} (h : p := by first | assumption | exact uT_plain _ | exact rq_) : p := h
theorem lk_U1 {p : Prop} (h : p := by first | exact bT_app _ _ | exact uT_el_set side_ | exact uT_el side_ | exact uT_up_set _ rfl side_ | exact uT_up _ rfl side_ | exact uT_hole2 rfl rfl side_ | exact uT_hole rfl side_ | exact uT_up3 rfl rfl (by simp) side_ | exact lk_) : p := h
theorem ok_U1 {p : Prop} (h : p := by first | (simp [Tr.okR, Tr.okRL, Tr.plainL, Tr.plain, cells1, Tr.cellB, PB.okRL, PB.okR, bT_plain, sT_plain, oT_plain, nT_plain, uT_plain]; done) | exact ok_) : p := h
structure Upp where
  s : ByteArray
  w : Int
  d : List UInt8
  f : Bool
def zeroU : Upp := ⟨emp, 0, [], false⟩
abbrev Upp.pa (u : Upp) (c : Nat) : PA := .agg [.ro (.str u.s), .ro (.int .i64 u.w), .ro (.row 1 c (bT u.d)), .ro (.bool u.f)]
abbrev Upp.po (u : Upp) (c : Nat) : PA := .agg [.ro (.str u.s), .ro (.int .i64 u.w), .own (.row 1 c (bT u.d)), .ro (.bool u.f)]
abbrev Upp.cells (u : Upp) : List Tr := [.str u.s, .int .i64 u.w, .row 1 u.d.length (bT u.d), .bool u.f]
abbrev Upp.tr (u : Upp) : Tr := .agg u.cells
abbrev keep4 : PB := .agg [.keep, .keep, .keep, .keep]
abbrev uT (l : List Upp) : List Tr := l.flatMap Upp.cells
theorem up_sz (u : Upp) : u.cells.length = 4 := rfl
theorem up_pl (u : Upp) : Tr.plainL u.cells := by simp [Upp.cells, Tr.plainL, Tr.plain, bT_plain]
theorem uT_plain (l : List Upp) : Tr.plainL (uT l) := fl_plain up_pl l
theorem uT_len (l : List Upp) : (uT l).length = l.length * 4 := fl_len up_sz l
theorem uT_snoc (l : List Upp) {s : ByteArray} {w : Int} {c : Nat} {d : List UInt8} {f : Bool} (hc : c = d.length) : uT l ++ [.str s, .int .i64 w, .row 1 c (bT d), .bool f] = uT (l ++ [⟨s, w, d, f⟩]) := by
  subst hc; unfold uT; rw [List.flatMap_append]; rfl
theorem uT_el {l : List Upp} {i : Int} (h : 0 ≤ i ∧ i < (l.length : Int)) : el (uT l) 4 i.toNat = (l.getD i.toNat zeroU).cells := el_fl up_sz (by omega)
theorem uT_up (l : List Upp) {i w : Int} {s : ByteArray} {c : Nat} {d : List UInt8} {f : Bool} (hc : c = d.length) (h : 0 ≤ i ∧ i < (l.length : Int)) : upEl (uT l) 4 i.toNat [.str s, .int .i64 w, .row 1 c (bT d), .bool f] = uT (l.set i.toNat ⟨s, w, d, f⟩) := by
  subst hc; exact upEl_fl up_sz (by omega) (⟨s, w, d, f⟩ : Upp)
theorem uT_up_set (l : List Upp) {x : Upp} {i w : Int} {s : ByteArray} {c : Nat} {d : List UInt8} {f : Bool} (hc : c = d.length) (h : 0 ≤ i ∧ i < (l.length : Int)) : upEl (uT (l.set i.toNat x)) 4 i.toNat [.str s, .int .i64 w, .row 1 c (bT d), .bool f] = uT (l.set i.toNat ⟨s, w, d, f⟩) := by
  rw [uT_up _ hc (by rw [List.length_set]; exact h), List.set_set]
theorem uT_el_set {l : List Upp} {x : Upp} {i : Int} (h : 0 ≤ i ∧ i < (l.length : Int)) : el (uT (l.set i.toNat x)) 4 i.toNat = x.cells := by
  rw [uT_el (by rw [List.length_set]; exact h), getD_set_same (by omega)]
theorem uT_hole {l : List Upp} {i : Int} {L : List Tr} (hL : L.length = 4) (h : 0 ≤ i ∧ i < (l.length : Int)) : el (upEl (uT l) 4 i.toNat L) 4 i.toNat = L :=
  el_up hL (by rw [uT_len]; exact Nat.mul_le_mul_right _ (by omega))
theorem uT_back {l : List Upp} {i w : Int} {s : ByteArray} {c : Nat} {d : List UInt8} {f : Bool} {L : List Tr} (hL : L.length = 4) (hc : c = d.length) (h : 0 ≤ i ∧ i < (l.length : Int)) : upEl (upEl (uT l) 4 i.toNat L) 4 i.toNat [.str s, .int .i64 w, .row 1 c (bT d), .bool f] = uT (l.set i.toNat ⟨s, w, d, f⟩) := by
  rw [up_up hL (by rw [uT_len]; exact Nat.mul_le_mul_right _ (by omega))]
  exact uT_up l hc h
theorem uT_hole2 {l : List Upp} {i : Int} {L L' : List Tr} (hL : L.length = 4) (hL' : L'.length = 4) (h : 0 ≤ i ∧ i < (l.length : Int)) : el (upEl (upEl (uT l) 4 i.toNat L) 4 i.toNat L') 4 i.toNat = L' := by
  have hz : i.toNat * 4 ≤ (uT l).length := by rw [uT_len]; exact Nat.mul_le_mul_right _ (by omega)
  rw [up_up hL hz]; exact el_up hL' hz
theorem uT_up3 {l : List Upp} {i w : Int} {s : ByteArray} {c : Nat} {d : List UInt8} {f : Bool} {L L' : List Tr} (hL : L.length = 4) (hL' : L'.length = 4) (hc : c = d.length) (h : 0 ≤ i ∧ i < (l.length : Int)) : upEl (upEl (upEl (uT l) 4 i.toNat L) 4 i.toNat L') 4 i.toNat [.str s, .int .i64 w, .row 1 c (bT d), .bool f] = uT (l.set i.toNat ⟨s, w, d, f⟩) := by
  have hz : i.toNat * 4 ≤ (uT l).length := by rw [uT_len]; exact Nat.mul_le_mul_right _ (by omega)
  rw [up_up hL hz, up_up hL' hz]; exact uT_up l hc h
theorem eqUp (u : Upp) {c c' : Nat} (hc : c = u.d.length) (hc' : c' = u.d.length) (hl : u.d.length ≤ 4294967296) : AGood e.P 36 [u.pa c, u.pa c'] (.bool true) [keep4, keep4] := by
  subst hc; subst hc'
  refine agood eok (fn := Try.f36) kr_ de_ rfl kr_ ok_U1 ok_U1 ?_
  repeat' (first | refine o_cons ?_ | refine w_ok rfl ?_ | refine w_call rfl (eqByteS _ rfl rfl hl) ?_ | refine o_nil ?_ | refine q_then ?_ | refine sq ?_ | refine aw_seq ?_ | refine aw_reg ?_ | refine w_pT rfl ka rfl ?_ | refine w_pF rfl ka rfl ?_ | refine o_y rfl ka ?_ | refine o_nT rfl ka ?_ | refine o_nF rfl ka ?_ | refine o_nU rfl ?_ | refine aw_cT rfl ka ?_ | refine aw_cF rfl ka ?_ | refine o_gT rfl (fun h => ?_) (fun h => ?_) | refine o_gF rfl (fun h => ?_) (fun h => ?_) | refine aw_cond rfl (fun h => ?_) (fun h => ?_) | refine aw_block ?_ | refine aw_skip ?_ | refine aw_ret ?_ | refine q_ret ?_ | refine q_blockN ?_ | refine q_blockR ?_ | refine aw_exit ?_ | refine q_exit ?_ | refine q_blockE ?_ | refine q_blockX de_ ?_ | refine fin_r rfl ?_ | (refine w_req rfl ?_ ?_; · exact rq_U1) | (refine w_lk rfl ?_; refine ⟨_, lk_U1, ?_⟩) | refine w_look (l' := _ :: _) rfl rfl ?_ | refine w_look (l' := []) rfl rfl ?_ | refine w_req rfl ?_ ?_ | refine w_pick rfl (fun b => ?_))
  all_goals first
    | rfl
    | simp at h
theorem eqUpS (l : List Upp) {n m : Nat} (hn : n = l.length) (hm : m = l.length) (hl : l.length ≤ 4294967296) (hd : ∀ u ∈ l, u.d.length ≤ 4294967296) : AGood e.P 53 [.ro (.row 4 n (uT l)), .ro (.row 4 m (uT l))] (.bool true) [.keep, .keep] := by
  subst hn; subst hm
  refine agood eok (fn := Try.f53) kr_ de_ rfl kr_ ok_U1 ok_U1 ?_
  repeat' (first | refine o_cons ?_ | refine w_ok rfl ?_ | refine o_nil ?_ | refine q_then ?_ | refine sq ?_ | refine aw_seq ?_ | refine aw_reg ?_ | refine w_pT rfl ka rfl ?_ | refine w_pF rfl ka rfl ?_ | refine o_y rfl ka ?_ | refine o_nT rfl ka ?_ | refine o_nF rfl ka ?_ | refine o_nU rfl ?_ | refine aw_cT rfl ka ?_ | refine aw_cF rfl ka ?_ | refine o_gT rfl (fun h => ?_) (fun h => ?_) | refine o_gF rfl (fun h => ?_) (fun h => ?_) | refine aw_cond rfl (fun h => ?_) (fun h => ?_) | refine aw_block ?_ | refine aw_skip ?_ | refine aw_ret ?_ | refine q_ret ?_ | refine q_blockN ?_ | refine q_blockR ?_ | refine aw_exit ?_ | refine q_exit ?_ | refine q_blockE ?_ | refine q_blockX de_ ?_ | refine fin_r rfl ?_ | (refine w_req rfl ?_ ?_; · exact rq_U1) | (refine w_lk rfl ?_; refine ⟨_, lk_U1, ?_⟩) | refine w_look (l' := _ :: _) rfl rfl ?_ | refine w_look (l' := []) rfl rfl ?_ | refine w_req rfl ?_ ?_ | refine w_pick rfl (fun b => ?_))
  · simp at h
  refine loop1 (fun i : Nat => ⟨tbl [(0, .ro none 4 l.length (uT l)), (1, .ro none 4 l.length (uT l)), (5, .int .i64 i)], mbl [], [.ro (some 0) 4 l.length (uT l), .ro (some 1) 4 l.length (uT l)]⟩) (fun i => i ≤ l.length) (fun i => l.length - i) 0 (Nat.zero_le _) ?_ ?_
  · (refine le_of [] ?_; repeat' (first | exact trivial | refine an ?_ ?_ | with_reducible rfl | exact bt rfl | exact Or.inl rfl | exact Or.inr rfl | exact Eq.refl _))
  intro i hi
  repeat' (first | refine o_cons ?_ | refine w_ok rfl ?_ | refine w_call rfl (eqUp (l.getD (i : Int).toNat zeroU) rfl rfl (getD_all hd side_)) ?_ | refine o_nil ?_ | refine q_then ?_ | refine sq ?_ | refine aw_seq ?_ | refine aw_reg ?_ | refine w_pT rfl ka rfl ?_ | refine w_pF rfl ka rfl ?_ | refine o_y rfl ka ?_ | refine o_nT rfl ka ?_ | refine o_nF rfl ka ?_ | refine o_nU rfl ?_ | refine aw_cT rfl ka ?_ | refine aw_cF rfl ka ?_ | refine o_gT rfl (fun h => ?_) (fun h => ?_) | refine o_gF rfl (fun h => ?_) (fun h => ?_) | refine aw_cond rfl (fun h => ?_) (fun h => ?_) | refine aw_block ?_ | refine aw_skip ?_ | refine aw_ret ?_ | refine q_ret ?_ | refine q_blockN ?_ | refine q_blockR ?_ | refine aw_exit ?_ | refine q_exit ?_ | refine q_blockE ?_ | refine q_blockX de_ ?_ | refine fin_r rfl ?_ | (refine w_req rfl ?_ ?_; · exact rq_U1) | (refine w_lk rfl ?_; refine ⟨_, lk_U1, ?_⟩) | refine w_look (l' := _ :: _) rfl rfl ?_ | refine w_look (l' := []) rfl rfl ?_ | refine w_req rfl ?_ ?_ | refine w_pick rfl (fun b => ?_) | refine l_call rfl (eqUp (l.getD (i : Int).toNat zeroU) rfl rfl (getD_all hd side_)) ?_ | refine aw_drw kr_ ?_ | refine d_cons ?_ | refine l_ok rfl ?_ | refine d_nil kr_ ?_ | refine d_y rfl ka ?_ | refine d_nT rfl ka ?_ | refine d_nF rfl ka ?_ | refine d_nU rfl ?_ | refine l_pT rfl ka rfl ?_ | refine l_pF rfl ka rfl ?_ | refine d_gT rfl (fun h => ?_) (fun h => ?_) | refine d_gF rfl (fun h => ?_) (fun h => ?_) | (refine l_req rfl ?_ ?_; · exact rq_U1) | (refine l_lk rfl ?_; refine ⟨_, lk_U1, ?_⟩) | refine l_look (l' := _ :: _) rfl rfl ?_ | refine l_look (l' := []) rfl rfl ?_ | refine l_req rfl ?_ ?_)
  · refine ⟨i + 1, ⟨by (exact side_), by (exact side_)⟩, ?_⟩
    (refine le_of [] ?_; repeat' (first | exact trivial | refine an ?_ ?_ | with_reducible rfl | exact bt rfl | exact Or.inl rfl | exact Or.inr rfl | exact Eq.refl _))
    first | omega | (simp; done) | (rw [wrap64] <;> omega) | (simp; omega)
  · rfl
theorem markUp (u : Upp) {c : Nat} (hc : c = u.d.length) (k : Int) (hk : 0 ≤ k ∧ k ≤ 1099511627776) (hl : u.d.length ≤ 4294967296) : AGood e.P 39 [u.po c, .ro (.int .i64 k)] (.int .i64 (k + c)) [.agg [.keep, .keep, .own (.row 1 c (bT (markL k c))), .keep], .keep] := by
  subst hc
  refine agood eok (fn := Try.f39) kr_ de_ rfl kr_ ok_U1 ok_U1 ?_
  repeat' (first | refine o_cons ?_ | refine w_ok rfl ?_ | refine w_call rfl (markByteS _ rfl k hk hl) ?_ | refine o_nil ?_ | refine q_then ?_ | refine sq ?_ | refine aw_seq ?_ | refine aw_reg ?_ | refine w_pT rfl ka rfl ?_ | refine w_pF rfl ka rfl ?_ | refine o_y rfl ka ?_ | refine o_nT rfl ka ?_ | refine o_nF rfl ka ?_ | refine o_nU rfl ?_ | refine aw_cT rfl ka ?_ | refine aw_cF rfl ka ?_ | refine o_gT rfl (fun h => ?_) (fun h => ?_) | refine o_gF rfl (fun h => ?_) (fun h => ?_) | refine aw_cond rfl (fun h => ?_) (fun h => ?_) | refine aw_block ?_ | refine aw_skip ?_ | refine aw_ret ?_ | refine q_ret ?_ | refine q_blockN ?_ | refine q_blockR ?_ | refine aw_exit ?_ | refine q_exit ?_ | refine q_blockE ?_ | refine q_blockX de_ ?_ | refine fin_r rfl ?_ | (refine w_req rfl ?_ ?_; · exact rq_U1) | (refine w_lk rfl ?_; refine ⟨_, lk_U1, ?_⟩) | refine w_look (l' := _ :: _) rfl rfl ?_ | refine w_look (l' := []) rfl rfl ?_ | refine w_req rfl ?_ ?_ | refine w_pick rfl (fun b => ?_))
  rfl
theorem heldUp (u : Upp) (k : Int) (n : Nat) (hd : u.d = markL k n) (hk : 0 ≤ k ∧ k ≤ 1099511627776) (hl : n ≤ 4294967296) : AGood e.P 40 [u.pa n, .ro (.int .i64 k)] (.int .i64 (k + n)) [keep4, .keep] := by
  obtain ⟨s, w, d, f⟩ := u
  simp only at hd
  subst hd
  refine agood eok (fn := Try.f40) kr_ de_ rfl kr_ ok_U1 ok_U1 ?_
  repeat' (first | refine o_cons ?_ | refine w_ok rfl ?_ | refine w_call rfl (heldByteS k n hk hl) ?_ | refine o_nil ?_ | refine q_then ?_ | refine sq ?_ | refine aw_seq ?_ | refine aw_reg ?_ | refine w_pT rfl ka rfl ?_ | refine w_pF rfl ka rfl ?_ | refine o_y rfl ka ?_ | refine o_nT rfl ka ?_ | refine o_nF rfl ka ?_ | refine o_nU rfl ?_ | refine aw_cT rfl ka ?_ | refine aw_cF rfl ka ?_ | refine o_gT rfl (fun h => ?_) (fun h => ?_) | refine o_gF rfl (fun h => ?_) (fun h => ?_) | refine aw_cond rfl (fun h => ?_) (fun h => ?_) | refine aw_block ?_ | refine aw_skip ?_ | refine aw_ret ?_ | refine q_ret ?_ | refine q_blockN ?_ | refine q_blockR ?_ | refine aw_exit ?_ | refine q_exit ?_ | refine q_blockE ?_ | refine q_blockX de_ ?_ | refine fin_r rfl ?_ | (refine w_req rfl ?_ ?_; · exact rq_U1) | (refine w_lk rfl ?_; refine ⟨_, lk_U1, ?_⟩) | refine w_look (l' := _ :: _) rfl rfl ?_ | refine w_look (l' := []) rfl rfl ?_ | refine w_req rfl ?_ ?_ | refine w_pick rfl (fun b => ?_))
  · exfalso; simp at h; omega
  · rfl
abbrev upM (u : Upp) : Nat := 3 + u.d.length
def mkUp (k : Int) (u : Upp) : Upp := ⟨textM k, k + 1, markL (k + 2) u.d.length, (k + 2 + u.d.length).tmod 3 == 0⟩
theorem markUpS (l : List Upp) {n : Nat} (hn : n = l.length) (k : Int) (hk : 0 ≤ k ∧ kAll upM k l ≤ 1000000000000) (hl : l.length ≤ 1048576) (hd : ∀ u ∈ l, u.d.length ≤ 4294967296) : AGood e.P 54 [.own (.row 4 n (uT l)), .ro (.int .i64 k)] (.int .i64 (kAll upM k l)) [.own (.row 4 n (uT (mkAll mkUp upM k l))), .keep] := by
  subst hn
  refine agood eok (fn := Try.f54) kr_ de_ rfl kr_ ok_U1 ok_U1 ?_
  repeat' (first | refine o_cons ?_ | refine w_ok rfl ?_ | refine o_nil ?_ | refine q_then ?_ | refine sq ?_ | refine aw_seq ?_ | refine aw_reg ?_ | refine w_pT rfl ka rfl ?_ | refine w_pF rfl ka rfl ?_ | refine o_y rfl ka ?_ | refine o_nT rfl ka ?_ | refine o_nF rfl ka ?_ | refine o_nU rfl ?_ | refine aw_cT rfl ka ?_ | refine aw_cF rfl ka ?_ | refine o_gT rfl (fun h => ?_) (fun h => ?_) | refine o_gF rfl (fun h => ?_) (fun h => ?_) | refine aw_cond rfl (fun h => ?_) (fun h => ?_) | refine aw_block ?_ | refine aw_skip ?_ | refine aw_ret ?_ | refine q_ret ?_ | refine q_blockN ?_ | refine q_blockR ?_ | refine aw_exit ?_ | refine q_exit ?_ | refine q_blockE ?_ | refine q_blockX de_ ?_ | refine fin_r rfl ?_ | (refine w_req rfl ?_ ?_; · exact rq_U1) | (refine w_lk rfl ?_; refine ⟨_, lk_U1, ?_⟩) | refine w_look (l' := _ :: _) rfl rfl ?_ | refine w_look (l' := []) rfl rfl ?_ | refine w_req rfl ?_ ?_ | refine w_pick rfl (fun b => ?_))
  refine loop1 (fun i : Nat => ⟨tbl [(0, .own 0 0), (1, .int .i64 (kAll upM k (l.take i))), (5, .int .i64 i)], mbl [(0, .row 0 0 4 l.length (uT (mkAll mkUp upM k (l.take i) ++ l.drop i)))], [.own 0 0, .int .i64 k]⟩) (fun i => i ≤ l.length) (fun i => l.length - i) 0 (Nat.zero_le _) ?_ ?_
  · (refine le_of [(0, 0)] ?_; repeat' (first | exact trivial | refine an ?_ ?_ | with_reducible rfl | exact bt rfl | exact Or.inl rfl | exact Or.inr rfl | exact Eq.refl _))
    all_goals first | rfl | simp [kAll]
  intro i hi
  have hlen : (mkAll mkUp upM k (l.take i) ++ l.drop i).length = l.length := by rw [List.length_append, mkAll_len, List.length_take, List.length_drop]; omega
  have hb := kAll_le (m := upM) (k := k) (l := l) i
  have w1 : IntKind.i64.wrap (kAll upM k (l.take i) + 1) = kAll upM k (l.take i) + 1 := wrap64 (by omega) (by omega)
  have hQd : i < l.length → ((mkAll mkUp upM k (l.take i) ++ l.drop i).getD (i : Int).toNat zeroU).d.length ≤ 4294967296 := fun h => by rw [show (i : Int).toNat = i by omega, mkAll_at h]; exact getD_all hd h
  generalize hQ : mkAll mkUp upM k (l.take i) ++ l.drop i = Q at hlen hQd ⊢
  generalize hK : kAll upM k (l.take i) = K at hb w1 ⊢
  have w2 : IntKind.i64.wrap (K + 1 + 1) = K + 2 := (wrap64 (by omega) (by omega)).trans (by omega)
  repeat' (first | refine o_cons ?_ | refine w_ok rfl ?_ | refine w_call rfl (markText _ (by omega)) ?_ | refine w_call rfl (markByteS (Q.getD (i : Int).toNat zeroU).d rfl _ (by rw [w1, w2]; omega) (hQd side_)) ?_ | refine o_nil ?_ | refine q_then ?_ | refine sq ?_ | refine aw_seq ?_ | refine aw_reg ?_ | refine w_pT rfl ka rfl ?_ | refine w_pF rfl ka rfl ?_ | refine o_y rfl ka ?_ | refine o_nT rfl ka ?_ | refine o_nF rfl ka ?_ | refine o_nU rfl ?_ | refine aw_cT rfl ka ?_ | refine aw_cF rfl ka ?_ | refine o_gT rfl (fun h => ?_) (fun h => ?_) | refine o_gF rfl (fun h => ?_) (fun h => ?_) | refine aw_cond rfl (fun h => ?_) (fun h => ?_) | refine aw_block ?_ | refine aw_skip ?_ | refine aw_ret ?_ | refine q_ret ?_ | refine q_blockN ?_ | refine q_blockR ?_ | refine aw_exit ?_ | refine q_exit ?_ | refine q_blockE ?_ | refine q_blockX de_ ?_ | refine fin_r rfl ?_ | (refine w_req rfl ?_ ?_; · exact rq_U1) | (refine w_lk rfl ?_; refine ⟨_, lk_U1, ?_⟩) | refine w_look (l' := _ :: _) rfl rfl ?_ | refine w_look (l' := []) rfl rfl ?_ | refine w_req rfl ?_ ?_ | refine w_pick rfl (fun b => ?_))
  · have hil : i < l.length := by (exact side_)
    have hat : Q.getD (i : Int).toNat zeroU = l.getD i zeroU := by rw [← hQ]; exact mkAll_at hil
    have hdl := getD_all hd hil (z := zeroU)
    have w3 : IntKind.i64.wrap (K + 2 + ((l.getD i zeroU).d.length : Int) + 1) = K + ((upM (l.getD i zeroU) : Nat) : Int) := (wrap64 (by omega) (by omega)).trans (by simp only [upM, Int.natCast_add]; omega)
    refine ⟨i + 1, ⟨by omega, by omega⟩, ?_⟩
    (refine le_of [(0, 0)] ?_; repeat' (first | exact trivial | refine an ?_ ?_ | with_reducible rfl | exact bt rfl | exact Or.inl rfl | exact Or.inr rfl | exact Eq.refl _))
    · rw [w1, w2, kAll_succ (z := zeroU) hil, hK, hat, w3]
    · first | omega | (simp; done) | (rw [wrap64] <;> omega) | (simp; omega)
    · rw [w1, w2, hat]
      refine congrArg uT ?_
      rw [List.set_set, ← hQ]
      have := mkAll_step (mk := mkUp) (m := upM) (k := k) (z := zeroU) hil
      rw [hK] at this
      exact this
  · have : i = l.length := by (exact side_)
    subst this
    rw [List.take_length] at hQ hK
    rw [← hQ, ← hK, List.drop_length, List.append_nil]
theorem heldUpS (l : List Upp) {n : Nat} (hn : n = l.length) (k : Int) (hk : 0 ≤ k ∧ kAll upM k l ≤ 1000000000000) (hl : l.length ≤ 1048576) (hd : ∀ u ∈ l, u.d.length ≤ 4294967296) : AGood e.P 55 [.ro (.row 4 n (uT (mkAll mkUp upM k l))), .ro (.int .i64 k)] (.int .i64 (kAll upM k l)) [.keep, .keep] := by
  subst hn
  refine agood eok (fn := Try.f55) kr_ de_ rfl kr_ ok_U1 ok_U1 ?_
  repeat' (first | refine o_cons ?_ | refine w_ok rfl ?_ | refine o_nil ?_ | refine q_then ?_ | refine sq ?_ | refine aw_seq ?_ | refine aw_reg ?_ | refine w_pT rfl ka rfl ?_ | refine w_pF rfl ka rfl ?_ | refine o_y rfl ka ?_ | refine o_nT rfl ka ?_ | refine o_nF rfl ka ?_ | refine o_nU rfl ?_ | refine aw_cT rfl ka ?_ | refine aw_cF rfl ka ?_ | refine o_gT rfl (fun h => ?_) (fun h => ?_) | refine o_gF rfl (fun h => ?_) (fun h => ?_) | refine aw_cond rfl (fun h => ?_) (fun h => ?_) | refine aw_block ?_ | refine aw_skip ?_ | refine aw_ret ?_ | refine q_ret ?_ | refine q_blockN ?_ | refine q_blockR ?_ | refine aw_exit ?_ | refine q_exit ?_ | refine q_blockE ?_ | refine q_blockX de_ ?_ | refine fin_r rfl ?_ | (refine w_req rfl ?_ ?_; · exact rq_U1) | (refine w_lk rfl ?_; refine ⟨_, lk_U1, ?_⟩) | refine w_look (l' := _ :: _) rfl rfl ?_ | refine w_look (l' := []) rfl rfl ?_ | refine w_req rfl ?_ ?_ | refine w_pick rfl (fun b => ?_))
  refine loop1 (fun i : Nat => ⟨tbl [(0, .ro none 4 l.length (uT (mkAll mkUp upM k l))), (1, .int .i64 (kAll upM k (l.take i))), (5, .int .i64 i)], mbl [], [.ro (some 0) 4 l.length (uT (mkAll mkUp upM k l)), .int .i64 k]⟩) (fun i => i ≤ l.length) (fun i => l.length - i) 0 (Nat.zero_le _) ?_ ?_
  · (refine le_of [] ?_; repeat' (first | exact trivial | refine an ?_ ?_ | with_reducible rfl | exact bt rfl | exact Or.inl rfl | exact Or.inr rfl | exact Eq.refl _))
    all_goals first | rfl | simp [kAll]
  intro i hi
  have hlen : (mkAll mkUp upM k l).length = l.length := mkAll_len _ _
  have hb := kAll_le (m := upM) (k := k) (l := l) i
  have w1 : IntKind.i64.wrap (kAll upM k (l.take i) + 1) = kAll upM k (l.take i) + 1 := wrap64 (by omega) (by omega)
  have hat : i < l.length → (mkAll mkUp upM k l).getD (i : Int).toNat zeroU = mkUp (kAll upM k (l.take i)) (l.getD i zeroU) := fun h => mkAll_get h
  have hK2 : i < l.length → kAll upM k (l.take (i + 1)) = kAll upM k (l.take i) + upM (l.getD i zeroU) := fun h => kAll_succ h
  have hdl : i < l.length → (l.getD i zeroU).d.length ≤ 4294967296 := fun h => getD_all hd h
  generalize mkAll mkUp upM k l = Q at hlen hat ⊢
  generalize hKe : kAll upM k (l.take i) = K at hb w1 hat hK2 ⊢
  have w2 : IntKind.i64.wrap (K + 1 + 1) = K + 2 := (wrap64 (by omega) (by omega)).trans (by omega)
  rcases Nat.lt_or_ge i l.length with hil | hil
  · have hat := hat hil
    have hc : decide ((i : Int) < (l.length : Int)) = true := by simp; omega
    have f1 : (!((Q.getD (i : Int).toNat zeroU).s.toList == (textM K).toList)) = false := by rw [hat]; simp [mkUp]
    have f2 : ((Q.getD (i : Int).toNat zeroU).w != IntKind.i64.wrap (K + 1)) = false := by rw [hat, w1]; simp [mkUp]
    have hd1 : (Q.getD (i : Int).toNat zeroU).d = markL (K + 2) (l.getD i zeroU).d.length := by rw [hat]; rfl
    have hd2 : (Q.getD (i : Int).toNat zeroU).d.length = (l.getD i zeroU).d.length := by rw [hd1, markL_len]
    have w6 : IntKind.i64.wrap (IntKind.i64.wrap (K + 1) + 1) = K + 2 := by rw [w1, w2]
    have cB : AGood e.P 81 [.ro (.row 1 (Q.getD (i : Int).toNat zeroU).d.length (bT (Q.getD (i : Int).toNat zeroU).d)), .ro (.int .i64 (IntKind.i64.wrap (IntKind.i64.wrap (K + 1) + 1)))] (.int .i64 (K + 2 + (l.getD i zeroU).d.length)) [.keep, .keep] := by
      rw [w6, hd2, hd1]; exact heldByteS _ _ (by omega) (hdl hil)
    have f3 : decide (K + 2 + ((l.getD i zeroU).d.length : Int) < 0) = false := by simp; omega
    have f4 : (!((Q.getD (i : Int).toNat zeroU).f == ((K + 2 + ((l.getD i zeroU).d.length : Int)).tmod 3 == 0))) = false := by rw [hat]; simp [mkUp]
    have w3 : IntKind.i64.wrap (K + 2 + ((l.getD i zeroU).d.length : Int) + 1) = K + ((upM (l.getD i zeroU) : Nat) : Int) := by
      have := hdl hil
      exact (wrap64 (by omega) (by omega)).trans (by simp only [upM, Int.natCast_add]; omega)
    repeat' (first | refine o_cons ?_ | refine w_ok rfl ?_ | refine w_call rfl (markText _ (by omega)) ?_ | refine w_call rfl (cB) ?_ | refine o_nil ?_ | refine q_then ?_ | refine sq ?_ | refine aw_seq ?_ | refine aw_reg ?_ | refine w_pT rfl ka rfl ?_ | refine w_pF rfl ka rfl ?_ | refine o_y rfl ka ?_ | refine o_nT rfl ka ?_ | refine o_nF rfl ka ?_ | refine o_nU rfl ?_ | refine aw_cT rfl ka ?_ | refine aw_cF rfl ka ?_ | refine o_gT rfl (fun h => ?_) (fun h => ?_) | refine o_gF rfl (fun h => ?_) (fun h => ?_) | refine aw_cond rfl (fun h => ?_) (fun h => ?_) | refine aw_block ?_ | refine aw_skip ?_ | refine aw_ret ?_ | refine q_ret ?_ | refine q_blockN ?_ | refine q_blockR ?_ | refine aw_exit ?_ | refine q_exit ?_ | refine q_blockE ?_ | refine q_blockX de_ ?_ | refine fin_r rfl ?_ | (refine w_req rfl ?_ ?_; · exact rq_U1) | (refine w_lk rfl ?_; refine ⟨_, lk_U1, ?_⟩) | refine w_look (l' := _ :: _) rfl rfl ?_ | refine w_look (l' := []) rfl rfl ?_ | refine w_req rfl ?_ ?_ | refine w_pick rfl (fun b => ?_) | refine l_call rfl (markText _ (by omega)) ?_ | refine l_call rfl (cB) ?_ | refine aw_drw kr_ ?_ | refine d_cons ?_ | refine l_ok rfl ?_ | refine d_nil kr_ ?_ | refine d_y rfl ka ?_ | refine d_nT rfl ka ?_ | refine d_nF rfl ka ?_ | refine d_nU rfl ?_ | refine l_pT rfl ka rfl ?_ | refine l_pF rfl ka rfl ?_ | refine d_gT rfl (fun h => ?_) (fun h => ?_) | refine d_gF rfl (fun h => ?_) (fun h => ?_) | (refine l_req rfl ?_ ?_; · exact rq_U1) | (refine l_lk rfl ?_; refine ⟨_, lk_U1, ?_⟩) | refine l_look (l' := _ :: _) rfl rfl ?_ | refine l_look (l' := []) rfl rfl ?_ | refine l_req rfl ?_ ?_)
    refine ⟨i + 1, ⟨by omega, by omega⟩, ?_⟩
    (refine le_of [] ?_; repeat' (first | exact trivial | refine an ?_ ?_ | with_reducible rfl | exact bt rfl | exact Or.inl rfl | exact Or.inr rfl | exact Eq.refl _))
    · rw [hK2 hil, w3]
    · first | omega | (simp; done) | (rw [wrap64] <;> omega) | (simp; omega)
  · have hc : decide ((i : Int) < (l.length : Int)) = false := by simp; omega
    repeat' (first | refine o_cons ?_ | refine w_ok rfl ?_ | refine o_nil ?_ | refine q_then ?_ | refine sq ?_ | refine aw_seq ?_ | refine aw_reg ?_ | refine w_pT rfl ka rfl ?_ | refine w_pF rfl ka rfl ?_ | refine o_y rfl ka ?_ | refine o_nT rfl ka ?_ | refine o_nF rfl ka ?_ | refine o_nU rfl ?_ | refine aw_cT rfl ka ?_ | refine aw_cF rfl ka ?_ | refine o_gT rfl (fun h => ?_) (fun h => ?_) | refine o_gF rfl (fun h => ?_) (fun h => ?_) | refine aw_cond rfl (fun h => ?_) (fun h => ?_) | refine aw_block ?_ | refine aw_skip ?_ | refine aw_ret ?_ | refine q_ret ?_ | refine q_blockN ?_ | refine q_blockR ?_ | refine aw_exit ?_ | refine q_exit ?_ | refine q_blockE ?_ | refine q_blockX de_ ?_ | refine fin_r rfl ?_ | (refine w_req rfl ?_ ?_; · exact rq_U1) | (refine w_lk rfl ?_; refine ⟨_, lk_U1, ?_⟩) | refine w_look (l' := _ :: _) rfl rfl ?_ | refine w_look (l' := []) rfl rfl ?_ | refine w_req rfl ?_ ?_ | refine w_pick rfl (fun b => ?_))
    have : i = l.length := by omega
    subst this
    rw [← hKe, List.take_length]
end Go.Proofs.Ytbkpmljdmlhmhaa
