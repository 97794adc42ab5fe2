import Derived.Test.YtbkpmljdmlhmhaaU4
namespace Go.Proofs.Ytbkpmljdmlhmhaa
open Go Go.AM Ty
set_option maxRecDepth 100000
set_option maxHeartbeats 4000000
set_option linter.unusedVariables false
set_option linter.unusedSimpArgs false
attribute [local irreducible] aw aops aopsD wpo wpoL condW guardW thenQ blockQ finQ Le AGood
theorem rq_U5 {p : Prop} (h : p := by first | assumption | exact uT_plain _ | exact rq_) : p := h
theorem lk_U5 {p : Prop} (h : p := by first | exact bT_app _ _ | exact uT_el side_ | exact lk_) : p := h
theorem ok_U5 {p : Prop} (h : p := by first | (simp [Tr.okR, Tr.okRL, Tr.plainL, Tr.plain, cells1, Tr.cellB, PB.okRL, PB.okR, bT_plain, sT_plain, oT_plain, nT_plain, uT_plain, up_pl]; done) | exact ok_) : p := h
def idP (id : ByteArray) (u : Upp) : Bool := u.s.toList == id.toList
def idxM (l : List Upp) (id : ByteArray) : Option Nat := l.findIdx? (idP id)
theorem idx_some {l : List Upp} {id : ByteArray} {i : Nat} (hi : i < l.length) (h1 : ∀ j, j < i → idP id (l.getD j zeroU) = false) (h2 : idP id (l.getD i zeroU) = true) : idxM l id = some i := by
  unfold idxM
  rw [List.findIdx?_eq_some_iff_getElem]
  refine ⟨hi, by simpa [List.getD_eq_getElem?_getD, hi] using h2, fun j hj => ?_⟩
  have := h1 j hj
  have hjl : j < l.length := by omega
  simpa [List.getD_eq_getElem?_getD, hjl] using this
theorem idx_none {l : List Upp} {id : ByteArray} (h1 : ∀ j, j < l.length → idP id (l.getD j zeroU) = false) : idxM l id = none := by
  unfold idxM
  rw [List.findIdx?_eq_none_iff]
  intro x hx
  obtain ⟨j, hj, rfl⟩ := List.getElem_of_mem hx
  have := h1 j hj
  simpa [List.getD_eq_getElem?_getD, hj] using this
theorem idx_lt {l : List Upp} {id : ByteArray} {i : Nat} (h : idxM l id = some i) : i < l.length := by
  unfold idxM at h
  rw [List.findIdx?_eq_some_iff_getElem] at h
  exact h.1
def idxI (o : Option Nat) : Int := match o with | some i => i | none => -1
theorem l14At (l : List Upp) {n : Nat} (hn : n = l.length) (id : ByteArray) (hl : l.length ≤ 4294967296) : AGood e.P 87 [.ro (.row 4 n (uT l)), .ro (.str id)] (.int .i64 (idxI (idxM l id))) [.keep, .keep] := by
  subst hn
  refine agood eok (fn := Try.f87) kr_ de_ rfl kr_ ok_U5 ok_U5 ?_
  repeat' (first | refine o_cons ?_ | refine w_ok rfl ?_ | refine o_nil ?_ | refine q_then ?_ | refine sq ?_ | refine aw_seq ?_ | refine aw_reg ?_ | refine w_pT rfl ka rfl ?_ | refine w_pF rfl ka rfl ?_ | refine o_y rfl ka ?_ | refine o_nT rfl ka ?_ | refine o_nF rfl ka ?_ | refine o_nU rfl ?_ | refine aw_cT rfl ka ?_ | refine aw_cF rfl ka ?_ | refine o_gT rfl (fun h => ?_) (fun h => ?_) | refine o_gF rfl (fun h => ?_) (fun h => ?_) | refine aw_cond rfl (fun h => ?_) (fun h => ?_) | refine aw_block ?_ | refine aw_skip ?_ | refine aw_ret ?_ | refine q_ret ?_ | refine q_blockN ?_ | refine q_blockR ?_ | refine aw_exit ?_ | refine q_exit ?_ | refine q_blockE ?_ | refine q_blockX de_ ?_ | refine fin_r rfl ?_ | (refine w_req rfl ?_ ?_; · exact rq_U5) | (refine w_lk rfl ?_; refine ⟨_, lk_U5, ?_⟩) | refine w_look (l' := _ :: _) rfl rfl ?_ | refine w_look (l' := []) rfl rfl ?_ | refine w_req rfl ?_ ?_ | refine w_pick rfl (fun b => ?_))
  refine loop1 (fun i : Nat => ⟨tbl [(0, .ro none 4 l.length (uT l)), (1, .str id), (5, .int .i64 i)], mbl [], [.ro (some 0) 4 l.length (uT l), .str id]⟩) (fun i => i ≤ l.length ∧ ∀ j, j < i → idP id (l.getD j zeroU) = false) (fun i => l.length - i) 0 ⟨Nat.zero_le _, fun j hj => by omega⟩ ?_ ?_
  · (refine le_of [] ?_; repeat' (first | exact trivial | refine an ?_ ?_ | with_reducible rfl | exact bt rfl | exact Or.inl rfl | exact Or.inr rfl | exact Eq.refl _))
  rintro i ⟨hi, hj⟩
  repeat' (first | refine o_cons ?_ | refine w_ok rfl ?_ | refine o_nil ?_ | refine q_then ?_ | refine sq ?_ | refine aw_seq ?_ | refine aw_reg ?_ | refine w_pT rfl ka rfl ?_ | refine w_pF rfl ka rfl ?_ | refine o_y rfl ka ?_ | refine o_nT rfl ka ?_ | refine o_nF rfl ka ?_ | refine o_nU rfl ?_ | refine aw_cT rfl ka ?_ | refine aw_cF rfl ka ?_ | refine o_gT rfl (fun h => ?_) (fun h => ?_) | refine o_gF rfl (fun h => ?_) (fun h => ?_) | refine aw_cond rfl (fun h => ?_) (fun h => ?_) | refine aw_block ?_ | refine aw_skip ?_ | refine aw_ret ?_ | refine q_ret ?_ | refine q_blockN ?_ | refine q_blockR ?_ | refine aw_exit ?_ | refine q_exit ?_ | refine q_blockE ?_ | refine q_blockX de_ ?_ | refine fin_r rfl ?_ | (refine w_req rfl ?_ ?_; · exact rq_U5) | (refine w_lk rfl ?_; refine ⟨_, lk_U5, ?_⟩) | refine w_look (l' := _ :: _) rfl rfl ?_ | refine w_look (l' := []) rfl rfl ?_ | refine w_req rfl ?_ ?_ | refine w_pick rfl (fun b => ?_))
  · have hil : i < l.length := by (exact side_)
    rw [idx_some hil hj (by assumption : idP id (l.getD (i : Int).toNat zeroU) = true)]
    rfl
  · have hil : i < l.length := by (exact side_)
    refine ⟨i + 1, ⟨⟨by omega, fun j h => ?_⟩, by omega⟩, ?_⟩
    · rcases Nat.lt_or_ge j i with h1 | h1
      · exact hj j h1
      · have : j = i := by omega
        subst this
        assumption
    (refine le_of [] ?_; repeat' (first | exact trivial | refine an ?_ ?_ | with_reducible rfl | exact bt rfl | exact Or.inl rfl | exact Or.inr rfl | exact Eq.refl _))
    first | omega | (simp; done) | (rw [wrap64] <;> omega) | (simp; omega)
  · have : i = l.length := by (exact side_)
    subst this
    rw [idx_none hj]
    rfl
def upTr (o : Option Upp) : Tr := .tup [(o.getD zeroU).tr, .bool o.isSome]
theorem upTr_okR (o : Option Upp) : (upTr o).okR := by simp [upTr, Tr.okR, Tr.okRL, cells1, Tr.cellB, bT_plain]
def upAtM (s : St) (id : ByteArray) : Option Upp := (idxM s.u id).map fun i => s.u.getD i zeroU
theorem upAt (s : St) (id : ByteArray) (h : s.sm) : AGood e.P 35 [stR s, .ro (.str id)] (upTr (upAtM s id)) [keep5, .keep] := by
  obtain ⟨a, b, ee, nn, l⟩ := s
  have hl : l.length ≤ 1048576 := h.u
  have hd : ∀ x ∈ l, x.d.length ≤ 4294967296 := fun x hx => by have := h.d x hx; omega
  clear h
  refine agood eok (fn := Try.f35) (by kernel_rfl) (by decide) rfl (by kernel_rfl) (upTr_okR _) (by simp [PB.okRL, PB.okR]) ?_
  repeat' (first | refine o_cons ?_ | refine w_ok rfl ?_ | refine o_nil ?_ | refine q_then ?_ | refine sq ?_ | refine aw_seq ?_ | refine aw_reg ?_ | refine w_pT rfl ka rfl ?_ | refine w_pF rfl ka rfl ?_ | refine o_y rfl ka ?_ | refine o_nT rfl ka ?_ | refine o_nF rfl ka ?_ | refine o_nU rfl ?_ | refine aw_cT rfl ka ?_ | refine aw_cF rfl ka ?_ | refine o_gT rfl (fun h => ?_) (fun h => ?_) | refine o_gF rfl (fun h => ?_) (fun h => ?_) | refine aw_cond rfl (fun h => ?_) (fun h => ?_) | refine aw_block ?_ | refine aw_skip ?_ | refine aw_ret ?_ | refine q_ret ?_ | refine q_blockN ?_ | refine q_blockR ?_ | refine aw_exit ?_ | refine q_exit ?_ | refine q_blockE ?_ | refine q_blockX de_ ?_ | refine fin_r rfl ?_ | (refine w_req rfl ?_ ?_; · exact rq_U5) | (refine w_lk rfl ?_; refine ⟨_, lk_U5, ?_⟩) | refine w_look (l' := _ :: _) rfl rfl ?_ | refine w_look (l' := []) rfl rfl ?_ | refine w_req rfl ?_ ?_ | refine w_pick rfl (fun b => ?_))
  refine loop1 (fun i : Nat => ⟨tbl [(1, .str id), (4, .ptr 5000 0 0 0), (9, .ro none 4 l.length (uT l)), (10, .int .i64 l.length), (11, .int .i64 i)], mbl [(5000, .box 0 51 [.str emp, .int .i64 0, .nils, .bool false])], [.agg [.ro (some 0) 1 a.length (sT a), .ro (some 1) 1 b.length (sT b), .int .i64 ee, .int .i64 nn, .ro (some 2) 4 l.length (uT l)], .str id]⟩) (fun i => i ≤ l.length ∧ ∀ j, j < i → idP id (l.getD j zeroU) = false) (fun i => l.length - i) 0 ⟨Nat.zero_le _, fun j hj => by omega⟩ ?_ ?_
  · (refine le_of [(5000, 5000)] ?_; repeat' (first | exact trivial | refine an ?_ ?_ | with_reducible rfl | exact bt rfl | exact Or.inl rfl | exact Or.inr rfl | exact Eq.refl _))
  rintro i ⟨hi, hj⟩
  repeat' (first | refine o_cons ?_ | refine w_ok rfl ?_ | refine w_call rfl (copyUp (l.getD (i : Int).toNat zeroU) rfl (getD_all hd side_)) ?_ | refine o_nil ?_ | refine q_then ?_ | refine sq ?_ | refine aw_seq ?_ | refine aw_reg ?_ | refine w_pT rfl ka rfl ?_ | refine w_pF rfl ka rfl ?_ | refine o_y rfl ka ?_ | refine o_nT rfl ka ?_ | refine o_nF rfl ka ?_ | refine o_nU rfl ?_ | refine aw_cT rfl ka ?_ | refine aw_cF rfl ka ?_ | refine o_gT rfl (fun h => ?_) (fun h => ?_) | refine o_gF rfl (fun h => ?_) (fun h => ?_) | refine aw_cond rfl (fun h => ?_) (fun h => ?_) | refine aw_block ?_ | refine aw_skip ?_ | refine aw_ret ?_ | refine q_ret ?_ | refine q_blockN ?_ | refine q_blockR ?_ | refine aw_exit ?_ | refine q_exit ?_ | refine q_blockE ?_ | refine q_blockX de_ ?_ | refine fin_r rfl ?_ | (refine w_req rfl ?_ ?_; · exact rq_U5) | (refine w_lk rfl ?_; refine ⟨_, lk_U5, ?_⟩) | refine w_look (l' := _ :: _) rfl rfl ?_ | refine w_look (l' := []) rfl rfl ?_ | refine w_req rfl ?_ ?_ | refine w_pick rfl (fun b => ?_))
  · have hil : i < l.length := by (exact side_)
    unfold upAtM
    rw [idx_some hil hj (by assumption : idP id (l.getD (i : Int).toNat zeroU) = true)]
    rfl
  · have hil : i < l.length := by (exact side_)
    refine ⟨i + 1, ⟨⟨by omega, fun j h => ?_⟩, by omega⟩, ?_⟩
    · rcases Nat.lt_or_ge j i with h1 | h1
      · exact hj j h1
      · have : j = i := by omega
        subst this
        assumption
    (refine le_of [(5000, 5000)] ?_; repeat' (first | exact trivial | refine an ?_ ?_ | with_reducible rfl | exact bt rfl | exact Or.inl rfl | exact Or.inr rfl | exact Eq.refl _))
    first | omega | (simp; done) | (rw [wrap64] <;> omega) | (simp; omega)
  · have : i = l.length := by (exact side_)
    subst this
    unfold upAtM
    rw [idx_none hj]
    rfl
theorem upAtS (s : St) (id : ByteArray) (h : s.sm) : AGood e.P 33 [stR s, .ro (.str id)] (upTr (upAtM s id)) [keep5, .keep] := by
  obtain ⟨a, b, ee, nn, l⟩ := s
  have hl : l.length ≤ 1048576 := h.u
  have hd : ∀ x ∈ l, x.d.length ≤ 1048576 := h.d
  clear h
  have c1 := l14At l rfl id (by omega)
  unfold upAtM
  simp only
  refine agood eok (fn := Try.f33) (by kernel_rfl) (by decide) rfl (by kernel_rfl) (upTr_okR _) (by simp [PB.okRL, PB.okR]) ?_
  cases ho : idxM l id with
  | none =>
    rw [ho] at c1
    repeat' (first | refine o_cons ?_ | refine w_ok rfl ?_ | refine w_call rfl (c1) ?_ | refine o_nil ?_ | refine q_then ?_ | refine sq ?_ | refine aw_seq ?_ | refine aw_reg ?_ | refine w_pT rfl ka rfl ?_ | refine w_pF rfl ka rfl ?_ | refine o_y rfl ka ?_ | refine o_nT rfl ka ?_ | refine o_nF rfl ka ?_ | refine o_nU rfl ?_ | refine aw_cT rfl ka ?_ | refine aw_cF rfl ka ?_ | refine o_gT rfl (fun h => ?_) (fun h => ?_) | refine o_gF rfl (fun h => ?_) (fun h => ?_) | refine aw_cond rfl (fun h => ?_) (fun h => ?_) | refine aw_block ?_ | refine aw_skip ?_ | refine aw_ret ?_ | refine q_ret ?_ | refine q_blockN ?_ | refine q_blockR ?_ | refine aw_exit ?_ | refine q_exit ?_ | refine q_blockE ?_ | refine q_blockX de_ ?_ | refine fin_r rfl ?_ | (refine w_req rfl ?_ ?_; · exact rq_U5) | (refine w_lk rfl ?_; refine ⟨_, lk_U5, ?_⟩) | refine w_look (l' := _ :: _) rfl rfl ?_ | refine w_look (l' := []) rfl rfl ?_ | refine w_req rfl ?_ ?_ | refine w_pick rfl (fun b => ?_))
    rfl
  | some i =>
    rw [ho] at c1
    have hil := idx_lt ho
    have hdi := getD_all hd hil (z := zeroU)
    have c1 : AGood e.P 87 [.ro (.row 4 l.length (uT l)), .ro (.str id)] (.int .i64 (i : Int)) [.keep, .keep] := c1
    have k1 : decide ((i : Int) < 0) = false := by simp
    have k2 : 0 ≤ (i : Int) ∧ (i : Int) < (l.length : Int) := by omega
    repeat' (first | refine o_cons ?_ | refine w_ok rfl ?_ | refine w_call rfl (c1) ?_ | refine o_nil ?_ | refine q_then ?_ | refine sq ?_ | refine aw_seq ?_ | refine aw_reg ?_ | refine w_pT rfl ka rfl ?_ | refine w_pF rfl ka rfl ?_ | refine o_y rfl ka ?_ | refine o_nT rfl ka ?_ | refine o_nF rfl ka ?_ | refine o_nU rfl ?_ | refine aw_cT rfl ka ?_ | refine aw_cF rfl ka ?_ | refine o_gT rfl (fun h => ?_) (fun h => ?_) | refine o_gF rfl (fun h => ?_) (fun h => ?_) | refine aw_cond rfl (fun h => ?_) (fun h => ?_) | refine aw_block ?_ | refine aw_skip ?_ | refine aw_ret ?_ | refine q_ret ?_ | refine q_blockN ?_ | refine q_blockR ?_ | refine aw_exit ?_ | refine q_exit ?_ | refine q_blockE ?_ | refine q_blockX de_ ?_ | refine fin_r rfl ?_ | (refine w_req rfl ?_ ?_; · exact rq_U5) | (refine w_lk rfl ?_; refine ⟨_, lk_U5, ?_⟩) | refine w_look (l' := _ :: _) rfl rfl ?_ | refine w_look (l' := []) rfl rfl ?_ | refine w_req rfl ?_ ?_ | refine w_pick rfl (fun b => ?_))
    · show (0 + (l.getD i zeroU).d.length) * 1 ≤ 140737488355328 ∧ 0 + (l.getD i zeroU).d.length ≤ 140737488355328
      omega
    repeat' (first | refine o_cons ?_ | refine w_ok rfl ?_ | refine o_nil ?_ | refine q_then ?_ | refine sq ?_ | refine aw_seq ?_ | refine aw_reg ?_ | refine w_pT rfl ka rfl ?_ | refine w_pF rfl ka rfl ?_ | refine o_y rfl ka ?_ | refine o_nT rfl ka ?_ | refine o_nF rfl ka ?_ | refine o_nU rfl ?_ | refine aw_cT rfl ka ?_ | refine aw_cF rfl ka ?_ | refine o_gT rfl (fun h => ?_) (fun h => ?_) | refine o_gF rfl (fun h => ?_) (fun h => ?_) | refine aw_cond rfl (fun h => ?_) (fun h => ?_) | refine aw_block ?_ | refine aw_skip ?_ | refine aw_ret ?_ | refine q_ret ?_ | refine q_blockN ?_ | refine q_blockR ?_ | refine aw_exit ?_ | refine q_exit ?_ | refine q_blockE ?_ | refine q_blockX de_ ?_ | refine fin_r rfl ?_ | (refine w_req rfl ?_ ?_; · exact rq_U5) | (refine w_lk rfl ?_; refine ⟨_, lk_U5, ?_⟩) | refine w_look (l' := _ :: _) rfl rfl ?_ | refine w_look (l' := []) rfl rfl ?_ | refine w_req rfl ?_ ?_ | refine w_pick rfl (fun b => ?_))
    refine Eq.trans ?_ (congrArg (fun k => (Tr.tup [.agg [.str (l.getD i zeroU).s, .int .i64 (l.getD i zeroU).w, .row 1 k (bT (l.getD i zeroU).d), .bool (l.getD i zeroU).f], .bool true], [keep5, PB.keep])) (Nat.zero_add _))
    rfl
end Go.Proofs.Ytbkpmljdmlhmhaa
