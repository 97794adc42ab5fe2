import Derived.Test.YtbkpmljdmlhmhaaF1
namespace Go.Proofs.Ytbkpmljdmlhmhaa
open Go Go.AM Ty
set_option maxRecDepth 100000
set_option maxHeartbeats 4000000
set_option linter.unusedVariables false
set_option linter.unusedSimpArgs false
attribute [local irreducible] aw aops aopsD wpo wpoL condW guardW thenQ blockQ finQ Le AGood
theorem rq_F3 {p : Prop} (h : p := by first | assumption | exact sT_plain _ | exact oT_plain _ | exact uT_plain _ | exact nT_plain _ | exact rq_) : p := h
theorem lk_F3 {p : Prop} (h : p := by first | exact bT_app _ _ | exact mp_el (f := Tr.str) emp side_ | exact mp_up (f := Tr.str) side_ | exact mp_el (f := Tr.bool) false side_ | exact mp_snoc (f := Tr.bool) _ _ | exact lk_) : p := h
theorem ok_F3 {p : Prop} (h : p := by first | exact ⟨⟨sT_plain _, sT_plain _, trivial, trivial, uT_plain _, trivial⟩, by simp [cells1, Tr.cellB]⟩ | (simp [Tr.okR, Tr.okRL, Tr.plainL, Tr.plain, cells1, Tr.cellB, PB.okRL, PB.okR, bT_plain, sT_plain, oT_plain, nT_plain, sT_plain, oT_plain, uT_plain, up_pl]; done) | exact ok_) : p := h
attribute [local irreducible] bwC bwX dOk
def kpC (l : List UInt8) (c : Cur) : Nat → Cur
  | 0 => c
  | i + 1 => bwC l (kpC l c i) 2
def kpL (l : List UInt8) (c : Cur) (i : Nat) : List Bool := (List.range i).map fun j => bwX l (kpC l c j) 2 == 0
theorem kpC_ok {l : List UInt8} {c : Cur} (h : c.ok l) : ∀ i, (kpC l c i).ok l
  | 0 => h
  | i + 1 => bwC_ok _ (kpC_ok h i)
theorem kpL_succ (l : List UInt8) (c : Cur) (i : Nat) : kpL l c i ++ [bwX l (kpC l c i) 2 == 0] = kpL l c (i + 1) := by
  unfold kpL; rw [List.range_succ, List.map_append]; rfl
theorem kpL_len (l : List UInt8) (c : Cur) (i : Nat) : (kpL l c i).length = i := by simp [kpL]
theorem keptS (l : List UInt8) {m : Nat} (hm : m = l.length) (c : Cur) (hc : c.ok l) (hl : l.length ≤ 4294967296) : ∃ (kept : List Bool) (c' : Cur), c'.ok l ∧ kept.length ≤ 8 ∧ AGood e.P 150 [curPA l m c] (.row 1 kept.length (oT kept)) [curPB c'] := by
  subst hm
  have c1 := l1Below l rfl c 8 hc hl
  have hb := bwX_bd l c (n := 8) (by decide)
  have hc2 : (bwC l c 8).ok l := bwC_ok _ hc
  generalize bwC l c 8 = d at *
  obtain ⟨N, hN⟩ : ∃ N : Nat, bwX l c 8 = (N : Int) := ⟨(bwX l c 8).toNat, by omega⟩
  rw [hN] at c1 hb
  refine ⟨kpL l d N, kpC l d N, kpC_ok hc2 N, by rw [kpL_len]; omega, ?_⟩
  refine agood eok (fn := Try.f150) kr_ de_ rfl kr_ ok_F3 ok_F3 ?_
  repeat' (first | refine o_cons ?_ | refine w_ok rfl ?_ | refine w_call rfl (c1) ?_ | refine o_nil ?_ | refine q_then ?_ | refine sq ?_ | refine aw_seq ?_ | refine aw_reg ?_ | refine w_pT rfl ka rfl ?_ | refine w_pF rfl ka rfl ?_ | refine o_y rfl ka ?_ | refine o_nT rfl ka ?_ | refine o_nF rfl ka ?_ | refine o_nU rfl ?_ | refine aw_cT rfl ka ?_ | refine aw_cF rfl ka ?_ | refine o_gT rfl (fun h => ?_) (fun h => ?_) | refine o_gF rfl (fun h => ?_) (fun h => ?_) | refine aw_cond rfl (fun h => ?_) (fun h => ?_) | refine aw_block ?_ | refine aw_skip ?_ | refine aw_ret ?_ | refine q_ret ?_ | refine q_blockN ?_ | refine q_blockR ?_ | refine aw_exit ?_ | refine q_exit ?_ | refine q_blockE ?_ | refine q_blockX de_ ?_ | refine fin_r rfl ?_ | (refine w_req rfl ?_ ?_; · exact rq_F3) | (refine w_lk rfl ?_; refine ⟨_, lk_F3, ?_⟩) | refine w_look (l' := _ :: _) rfl rfl ?_ | refine w_look (l' := []) rfl rfl ?_ | refine w_req rfl ?_ ?_ | refine w_pick rfl (fun b => ?_) | refine l_call rfl (c1) ?_ | refine aw_drw kr_ ?_ | refine d_cons ?_ | refine l_ok rfl ?_ | refine d_nil kr_ ?_ | refine d_y rfl ka ?_ | refine d_nT rfl ka ?_ | refine d_nF rfl ka ?_ | refine d_nU rfl ?_ | refine l_pT rfl ka rfl ?_ | refine l_pF rfl ka rfl ?_ | refine d_gT rfl (fun h => ?_) (fun h => ?_) | refine d_gF rfl (fun h => ?_) (fun h => ?_) | (refine l_req rfl ?_ ?_; · exact rq_F3) | (refine l_lk rfl ?_; refine ⟨_, lk_F3, ?_⟩) | refine l_look (l' := _ :: _) rfl rfl ?_ | refine l_look (l' := []) rfl rfl ?_ | refine l_req rfl ?_ ?_)
  refine loop1 (fun i : Nat => ⟨tbl [(0, .ptr 0 0 0 0), (3, .own 6000 0), (4, .int .i64 ((N : Int) - i))], mbl [(0, .box 0 124 [.ro (some 0) 1 l.length (bT l), .int .i64 (kpC l d i).i, .int .i64 (kpC l d i).h]), (6000, .row 0 0 1 i (oT (kpL l d i)))], [.ptr 0 0 0 0]⟩) (fun i => i ≤ N) (fun i => N - i) 0 (Nat.zero_le _) ?_ ?_
  · (refine le_of [(0, 0), (6000, 6000)] ?_; repeat' (first | exact trivial | refine an ?_ ?_ | with_reducible rfl | exact bt rfl | exact Or.inl rfl | exact Or.inr rfl | exact Eq.refl _))
    all_goals (first | omega | (simp; done) | (rw [wrap64] <;> omega) | (simp; omega))
  intro i hi
  rcases Nat.lt_or_ge i N with hil | hil
  · have k1 : decide ((N : Int) - i > 0) = true := decide_eq_true (by omega)
    have c2 := l1Once l rfl (kpC l d i) 2 (kpC_ok hc2 i) hl
    have q2 : (i + 1) * 1 ≤ 140737488355328 ∧ i + 1 ≤ 140737488355328 := by omega
    repeat' (first | refine o_cons ?_ | refine w_ok rfl ?_ | refine w_call rfl (c2) ?_ | refine o_nil ?_ | refine q_then ?_ | refine sq ?_ | refine aw_seq ?_ | refine aw_reg ?_ | refine w_pT rfl ka rfl ?_ | refine w_pF rfl ka rfl ?_ | refine o_y rfl ka ?_ | refine o_nT rfl ka ?_ | refine o_nF rfl ka ?_ | refine o_nU rfl ?_ | refine aw_cT rfl ka ?_ | refine aw_cF rfl ka ?_ | refine o_gT rfl (fun h => ?_) (fun h => ?_) | refine o_gF rfl (fun h => ?_) (fun h => ?_) | refine aw_cond rfl (fun h => ?_) (fun h => ?_) | refine aw_block ?_ | refine aw_skip ?_ | refine aw_ret ?_ | refine q_ret ?_ | refine q_blockN ?_ | refine q_blockR ?_ | refine aw_exit ?_ | refine q_exit ?_ | refine q_blockE ?_ | refine q_blockX de_ ?_ | refine fin_r rfl ?_ | (refine w_req rfl ?_ ?_; · exact rq_F3) | (refine w_lk rfl ?_; refine ⟨_, lk_F3, ?_⟩) | refine w_look (l' := _ :: _) rfl rfl ?_ | refine w_look (l' := []) rfl rfl ?_ | refine w_req rfl ?_ ?_ | refine w_pick rfl (fun b => ?_) | refine l_call rfl (c2) ?_ | refine aw_drw kr_ ?_ | refine d_cons ?_ | refine l_ok rfl ?_ | refine d_nil kr_ ?_ | refine d_y rfl ka ?_ | refine d_nT rfl ka ?_ | refine d_nF rfl ka ?_ | refine d_nU rfl ?_ | refine l_pT rfl ka rfl ?_ | refine l_pF rfl ka rfl ?_ | refine d_gT rfl (fun h => ?_) (fun h => ?_) | refine d_gF rfl (fun h => ?_) (fun h => ?_) | (refine l_req rfl ?_ ?_; · exact rq_F3) | (refine l_lk rfl ?_; refine ⟨_, lk_F3, ?_⟩) | refine l_look (l' := _ :: _) rfl rfl ?_ | refine l_look (l' := []) rfl rfl ?_ | refine l_req rfl ?_ ?_)
    refine ⟨i + 1, ⟨by omega, by omega⟩, ?_⟩
    (refine le_of [(0, 0), (6000, 6000)] ?_; repeat' (first | exact trivial | refine an ?_ ?_ | with_reducible rfl | exact bt rfl | exact Or.inl rfl | exact Or.inr rfl | exact Eq.refl _))
    all_goals first | exact congrArg oT (kpL_succ l d i) | (first | omega | (simp; done) | (rw [wrap64] <;> omega) | (simp; omega))
  · have k1 : decide ((N : Int) - i > 0) = false := decide_eq_false (by omega)
    have : i = N := by omega
    subst this
    repeat' (first | refine o_cons ?_ | refine w_ok rfl ?_ | refine o_nil ?_ | refine q_then ?_ | refine sq ?_ | refine aw_seq ?_ | refine aw_reg ?_ | refine w_pT rfl ka rfl ?_ | refine w_pF rfl ka rfl ?_ | refine o_y rfl ka ?_ | refine o_nT rfl ka ?_ | refine o_nF rfl ka ?_ | refine o_nU rfl ?_ | refine aw_cT rfl ka ?_ | refine aw_cF rfl ka ?_ | refine o_gT rfl (fun h => ?_) (fun h => ?_) | refine o_gF rfl (fun h => ?_) (fun h => ?_) | refine aw_cond rfl (fun h => ?_) (fun h => ?_) | refine aw_block ?_ | refine aw_skip ?_ | refine aw_ret ?_ | refine q_ret ?_ | refine q_blockN ?_ | refine q_blockR ?_ | refine aw_exit ?_ | refine q_exit ?_ | refine q_blockE ?_ | refine q_blockX de_ ?_ | refine fin_r rfl ?_ | (refine w_req rfl ?_ ?_; · exact rq_F3) | (refine w_lk rfl ?_; refine ⟨_, lk_F3, ?_⟩) | refine w_look (l' := _ :: _) rfl rfl ?_ | refine w_look (l' := []) rfl rfl ?_ | refine w_req rfl ?_ ?_ | refine w_pick rfl (fun b => ?_))
    rw [kpL_len]
def fStep (kept : List Bool) (p : List ByteArray × List ByteArray) (i : Nat) : List ByteArray × List ByteArray :=
  if i < kept.length ∧ kept.getD i false = true then (p.1, p.2.set i (p.1.getD i emp)) else (p.1.set i (p.2.getD i emp), p.2)
def fGo (a b : List ByteArray) (kept : List Bool) : Nat → List ByteArray × List ByteArray
  | 0 => (a, b)
  | i + 1 => fStep kept (fGo a b kept i) i
structure FG (a b : List ByteArray) (p : List ByteArray × List ByteArray) : Prop where
  l1 : p.1.length = a.length
  l2 : p.2.length = b.length
  z1 : ∀ x ∈ p.1, x.size ≤ 64
  z2 : ∀ x ∈ p.2, x.size ≤ 64
theorem fGo_ok {a b : List ByteArray} {kept : List Bool} (h1 : ∀ x ∈ a, x.size ≤ 64) (h2 : ∀ x ∈ b, x.size ≤ 64) : ∀ i, FG a b (fGo a b kept i)
  | 0 => ⟨rfl, rfl, h1, h2⟩
  | i + 1 => by
    have p := fGo_ok (kept := kept) h1 h2 i
    unfold fGo fStep
    split
    · exact ⟨p.l1, by rw [List.length_set]; exact p.l2, p.z1, set_all p.z2 (getD_or (p := fun x : ByteArray => x.size ≤ 64) p.z1 (by decide))⟩
    · exact ⟨by rw [List.length_set]; exact p.l1, p.l2, set_all p.z1 (getD_or (p := fun x : ByteArray => x.size ≤ 64) p.z2 (by decide)), p.z2⟩
theorem fallS (a b : List ByteArray) {m n : Nat} (hm : m = a.length) (hn : n = b.length) (ha : a.length ≤ 200) (hb : b.length ≤ 200) (h1 : ∀ x ∈ a, x.size ≤ 64) (h2 : ∀ x ∈ b, x.size ≤ 64) (kept : List Bool) {k : Nat} (hk : k = kept.length) (hkl : kept.length ≤ 8) :
    ∃ a' b', AGood e.P 149 [dkR a b m n, .ro (.row 1 k (oT kept))] (dkT a' b') [keep2, .keep] := by
  subst hm; subst hn; subst hk
  have c1 := copyDiskS a b rfl rfl (by omega) (by omega)
  have c2 := diskOkS a b rfl rfl
  cases hd : dOk a b with
  | false =>
    rw [hd] at c2
    refine ⟨a, b, ?_⟩
    refine agood eok (fn := Try.f149) kr_ de_ rfl kr_ ok_F3 ok_F3 ?_
    repeat' (first | refine o_cons ?_ | refine w_ok rfl ?_ | refine w_call rfl (c1) ?_ | refine w_call rfl (c2) ?_ | refine o_nil ?_ | refine q_then ?_ | refine sq ?_ | refine aw_seq ?_ | refine aw_reg ?_ | refine w_pT rfl ka rfl ?_ | refine w_pF rfl ka rfl ?_ | refine o_y rfl ka ?_ | refine o_nT rfl ka ?_ | refine o_nF rfl ka ?_ | refine o_nU rfl ?_ | refine aw_cT rfl ka ?_ | refine aw_cF rfl ka ?_ | refine o_gT rfl (fun h => ?_) (fun h => ?_) | refine o_gF rfl (fun h => ?_) (fun h => ?_) | refine aw_cond rfl (fun h => ?_) (fun h => ?_) | refine aw_block ?_ | refine aw_skip ?_ | refine aw_ret ?_ | refine q_ret ?_ | refine q_blockN ?_ | refine q_blockR ?_ | refine aw_exit ?_ | refine q_exit ?_ | refine q_blockE ?_ | refine q_blockX de_ ?_ | refine fin_r rfl ?_ | (refine w_req rfl ?_ ?_; · exact rq_F3) | (refine w_lk rfl ?_; refine ⟨_, lk_F3, ?_⟩) | refine w_look (l' := _ :: _) rfl rfl ?_ | refine w_look (l' := []) rfl rfl ?_ | refine w_req rfl ?_ ?_ | refine w_pick rfl (fun b => ?_) | refine l_call rfl (c1) ?_ | refine l_call rfl (c2) ?_ | refine aw_drw kr_ ?_ | refine d_cons ?_ | refine l_ok rfl ?_ | refine d_nil kr_ ?_ | refine d_y rfl ka ?_ | refine d_nT rfl ka ?_ | refine d_nF rfl ka ?_ | refine d_nU rfl ?_ | refine l_pT rfl ka rfl ?_ | refine l_pF rfl ka rfl ?_ | refine d_gT rfl (fun h => ?_) (fun h => ?_) | refine d_gF rfl (fun h => ?_) (fun h => ?_) | (refine l_req rfl ?_ ?_; · exact rq_F3) | (refine l_lk rfl ?_; refine ⟨_, lk_F3, ?_⟩) | refine l_look (l' := _ :: _) rfl rfl ?_ | refine l_look (l' := []) rfl rfl ?_ | refine l_req rfl ?_ ?_)
    rfl
  | true =>
    rw [hd] at c2
    obtain ⟨d1, d2, d3, d4⟩ := dOk_sz hd
    have hgo := fGo_ok (kept := kept) h1 h2
    refine ⟨(fGo a b kept a.length).1, (fGo a b kept a.length).2, ?_⟩
    refine agood eok (fn := Try.f149) kr_ de_ rfl kr_ ok_F3 ok_F3 ?_
    repeat' (first | refine o_cons ?_ | refine w_ok rfl ?_ | refine w_call rfl (c1) ?_ | refine w_call rfl (c2) ?_ | refine o_nil ?_ | refine q_then ?_ | refine sq ?_ | refine aw_seq ?_ | refine aw_reg ?_ | refine w_pT rfl ka rfl ?_ | refine w_pF rfl ka rfl ?_ | refine o_y rfl ka ?_ | refine o_nT rfl ka ?_ | refine o_nF rfl ka ?_ | refine o_nU rfl ?_ | refine aw_cT rfl ka ?_ | refine aw_cF rfl ka ?_ | refine o_gT rfl (fun h => ?_) (fun h => ?_) | refine o_gF rfl (fun h => ?_) (fun h => ?_) | refine aw_cond rfl (fun h => ?_) (fun h => ?_) | refine aw_block ?_ | refine aw_skip ?_ | refine aw_ret ?_ | refine q_ret ?_ | refine q_blockN ?_ | refine q_blockR ?_ | refine aw_exit ?_ | refine q_exit ?_ | refine q_blockE ?_ | refine q_blockX de_ ?_ | refine fin_r rfl ?_ | (refine w_req rfl ?_ ?_; · exact rq_F3) | (refine w_lk rfl ?_; refine ⟨_, lk_F3, ?_⟩) | refine w_look (l' := _ :: _) rfl rfl ?_ | refine w_look (l' := []) rfl rfl ?_ | refine w_req rfl ?_ ?_ | refine w_pick rfl (fun b => ?_) | refine l_call rfl (c1) ?_ | refine l_call rfl (c2) ?_ | refine aw_drw kr_ ?_ | refine d_cons ?_ | refine l_ok rfl ?_ | refine d_nil kr_ ?_ | refine d_y rfl ka ?_ | refine d_nT rfl ka ?_ | refine d_nF rfl ka ?_ | refine d_nU rfl ?_ | refine l_pT rfl ka rfl ?_ | refine l_pF rfl ka rfl ?_ | refine d_gT rfl (fun h => ?_) (fun h => ?_) | refine d_gF rfl (fun h => ?_) (fun h => ?_) | (refine l_req rfl ?_ ?_; · exact rq_F3) | (refine l_lk rfl ?_; refine ⟨_, lk_F3, ?_⟩) | refine l_look (l' := _ :: _) rfl rfl ?_ | refine l_look (l' := []) rfl rfl ?_ | refine l_req rfl ?_ ?_)
    refine loop1 (fun i : Nat => ⟨tbl [(1, .ro none 1 kept.length (oT kept)), (4, .ptr 5000 0 0 0), (5, .ptr 6000 0 0 0), (6, .int .i64 i)], mbl [(5000, .box 0 42 [.nils, .nils]), (6000, .box 0 42 [.own 9000 0, .own 9001 0]), (9000, .row 0 0 1 a.length (sT (fGo a b kept i).1)), (9001, .row 0 0 1 b.length (sT (fGo a b kept i).2))], [.agg [.ro (some 0) 1 a.length (sT a), .ro (some 1) 1 b.length (sT b)], .ro (some 2) 1 kept.length (oT kept)]⟩) (fun i => i ≤ a.length) (fun i => a.length - i) 0 (Nat.zero_le _) ?_ ?_
    · (refine le_of [(5000, 5000), (6000, 6000), (9000, 9000), (9001, 9001)] ?_; repeat' (first | exact trivial | refine an ?_ ?_ | with_reducible rfl | exact bt rfl | exact Or.inl rfl | exact Or.inr rfl | exact Eq.refl _))
    intro i hi
    have p := hgo i
    have l1 := p.l1
    have l2 := p.l2
    have he : fGo a b kept (i + 1) = fStep kept (fGo a b kept i) i := rfl
    rcases Nat.lt_or_ge i a.length with hil | hil
    · have hc : decide ((i : Int) < (a.length : Int)) = true := by simp; omega
      generalize fGo a b kept i = q at *
      obtain ⟨x, y⟩ := q
      simp only at l1 l2 ⊢
      have g1 : 0 ≤ (i : Int) ∧ (i : Int) < (a.length : Int) := by omega
      have g2 : 0 ≤ (i : Int) ∧ (i : Int) < (b.length : Int) := by omega
      have g3 : 0 ≤ (i : Int) ∧ (i : Int) < (x.length : Int) := by omega
      have g4 : 0 ≤ (i : Int) ∧ (i : Int) < (y.length : Int) := by omega
      by_cases hk1 : i < kept.length
      · have k1 : decide ((i : Int) < (kept.length : Int)) = true := by simp; omega
        have g5 : 0 ≤ (i : Int) ∧ (i : Int) < (kept.length : Int) := by omega
        cases hk2 : kept.getD i false with
        | true =>
          have k2 : kept.getD (i : Int).toNat false = true := hk2
          have hs : fStep kept (x, y) i = (x, y.set i (x.getD i emp)) := by unfold fStep; rw [if_pos ⟨hk1, hk2⟩]
          repeat' (first | refine o_cons ?_ | refine w_ok rfl ?_ | refine o_nil ?_ | refine q_then ?_ | refine sq ?_ | refine aw_seq ?_ | refine aw_reg ?_ | refine w_pT rfl ka rfl ?_ | refine w_pF rfl ka rfl ?_ | refine o_y rfl ka ?_ | refine o_nT rfl ka ?_ | refine o_nF rfl ka ?_ | refine o_nU rfl ?_ | refine aw_cT rfl ka ?_ | refine aw_cF rfl ka ?_ | refine o_gT rfl (fun h => ?_) (fun h => ?_) | refine o_gF rfl (fun h => ?_) (fun h => ?_) | refine aw_cond rfl (fun h => ?_) (fun h => ?_) | refine aw_block ?_ | refine aw_skip ?_ | refine aw_ret ?_ | refine q_ret ?_ | refine q_blockN ?_ | refine q_blockR ?_ | refine aw_exit ?_ | refine q_exit ?_ | refine q_blockE ?_ | refine q_blockX de_ ?_ | refine fin_r rfl ?_ | (refine w_req rfl ?_ ?_; · exact rq_F3) | (refine w_lk rfl ?_; refine ⟨_, lk_F3, ?_⟩) | refine w_look (l' := _ :: _) rfl rfl ?_ | refine w_look (l' := []) rfl rfl ?_ | refine w_req rfl ?_ ?_ | refine w_pick rfl (fun b => ?_) | refine aw_drw kr_ ?_ | refine d_cons ?_ | refine l_ok rfl ?_ | refine d_nil kr_ ?_ | refine d_y rfl ka ?_ | refine d_nT rfl ka ?_ | refine d_nF rfl ka ?_ | refine d_nU rfl ?_ | refine l_pT rfl ka rfl ?_ | refine l_pF rfl ka rfl ?_ | refine d_gT rfl (fun h => ?_) (fun h => ?_) | refine d_gF rfl (fun h => ?_) (fun h => ?_) | (refine l_req rfl ?_ ?_; · exact rq_F3) | (refine l_lk rfl ?_; refine ⟨_, lk_F3, ?_⟩) | refine l_look (l' := _ :: _) rfl rfl ?_ | refine l_look (l' := []) rfl rfl ?_ | refine l_req rfl ?_ ?_)
          refine ⟨i + 1, ⟨by omega, by omega⟩, ?_⟩
          rw [he, hs]
          (refine le_of [(5000, 5000), (6000, 6000), (9000, 9000), (9001, 9001)] ?_; repeat' (first | exact trivial | refine an ?_ ?_ | with_reducible rfl | exact bt rfl | exact Or.inl rfl | exact Or.inr rfl | exact Eq.refl _))
          all_goals (first | omega | (simp; done) | (rw [wrap64] <;> omega) | (simp; omega))
        | false =>
          have k2 : kept.getD (i : Int).toNat false = false := hk2
          have hs : fStep kept (x, y) i = (x.set i (y.getD i emp), y) := by unfold fStep; rw [if_neg (fun h => by rw [hk2] at h; exact Bool.noConfusion h.2)]
          repeat' (first | refine o_cons ?_ | refine w_ok rfl ?_ | refine o_nil ?_ | refine q_then ?_ | refine sq ?_ | refine aw_seq ?_ | refine aw_reg ?_ | refine w_pT rfl ka rfl ?_ | refine w_pF rfl ka rfl ?_ | refine o_y rfl ka ?_ | refine o_nT rfl ka ?_ | refine o_nF rfl ka ?_ | refine o_nU rfl ?_ | refine aw_cT rfl ka ?_ | refine aw_cF rfl ka ?_ | refine o_gT rfl (fun h => ?_) (fun h => ?_) | refine o_gF rfl (fun h => ?_) (fun h => ?_) | refine aw_cond rfl (fun h => ?_) (fun h => ?_) | refine aw_block ?_ | refine aw_skip ?_ | refine aw_ret ?_ | refine q_ret ?_ | refine q_blockN ?_ | refine q_blockR ?_ | refine aw_exit ?_ | refine q_exit ?_ | refine q_blockE ?_ | refine q_blockX de_ ?_ | refine fin_r rfl ?_ | (refine w_req rfl ?_ ?_; · exact rq_F3) | (refine w_lk rfl ?_; refine ⟨_, lk_F3, ?_⟩) | refine w_look (l' := _ :: _) rfl rfl ?_ | refine w_look (l' := []) rfl rfl ?_ | refine w_req rfl ?_ ?_ | refine w_pick rfl (fun b => ?_) | refine aw_drw kr_ ?_ | refine d_cons ?_ | refine l_ok rfl ?_ | refine d_nil kr_ ?_ | refine d_y rfl ka ?_ | refine d_nT rfl ka ?_ | refine d_nF rfl ka ?_ | refine d_nU rfl ?_ | refine l_pT rfl ka rfl ?_ | refine l_pF rfl ka rfl ?_ | refine d_gT rfl (fun h => ?_) (fun h => ?_) | refine d_gF rfl (fun h => ?_) (fun h => ?_) | (refine l_req rfl ?_ ?_; · exact rq_F3) | (refine l_lk rfl ?_; refine ⟨_, lk_F3, ?_⟩) | refine l_look (l' := _ :: _) rfl rfl ?_ | refine l_look (l' := []) rfl rfl ?_ | refine l_req rfl ?_ ?_)
          refine ⟨i + 1, ⟨by omega, by omega⟩, ?_⟩
          rw [he, hs]
          (refine le_of [(5000, 5000), (6000, 6000), (9000, 9000), (9001, 9001)] ?_; repeat' (first | exact trivial | refine an ?_ ?_ | with_reducible rfl | exact bt rfl | exact Or.inl rfl | exact Or.inr rfl | exact Eq.refl _))
          all_goals (first | omega | (simp; done) | (rw [wrap64] <;> omega) | (simp; omega))
      · have k1 : decide ((i : Int) < (kept.length : Int)) = false := by simp; omega
        have hs : fStep kept (x, y) i = (x.set i (y.getD i emp), y) := by unfold fStep; rw [if_neg (fun h => hk1 h.1)]
        repeat' (first | refine o_cons ?_ | refine w_ok rfl ?_ | refine o_nil ?_ | refine q_then ?_ | refine sq ?_ | refine aw_seq ?_ | refine aw_reg ?_ | refine w_pT rfl ka rfl ?_ | refine w_pF rfl ka rfl ?_ | refine o_y rfl ka ?_ | refine o_nT rfl ka ?_ | refine o_nF rfl ka ?_ | refine o_nU rfl ?_ | refine aw_cT rfl ka ?_ | refine aw_cF rfl ka ?_ | refine o_gT rfl (fun h => ?_) (fun h => ?_) | refine o_gF rfl (fun h => ?_) (fun h => ?_) | refine aw_cond rfl (fun h => ?_) (fun h => ?_) | refine aw_block ?_ | refine aw_skip ?_ | refine aw_ret ?_ | refine q_ret ?_ | refine q_blockN ?_ | refine q_blockR ?_ | refine aw_exit ?_ | refine q_exit ?_ | refine q_blockE ?_ | refine q_blockX de_ ?_ | refine fin_r rfl ?_ | (refine w_req rfl ?_ ?_; · exact rq_F3) | (refine w_lk rfl ?_; refine ⟨_, lk_F3, ?_⟩) | refine w_look (l' := _ :: _) rfl rfl ?_ | refine w_look (l' := []) rfl rfl ?_ | refine w_req rfl ?_ ?_ | refine w_pick rfl (fun b => ?_) | refine aw_drw kr_ ?_ | refine d_cons ?_ | refine l_ok rfl ?_ | refine d_nil kr_ ?_ | refine d_y rfl ka ?_ | refine d_nT rfl ka ?_ | refine d_nF rfl ka ?_ | refine d_nU rfl ?_ | refine l_pT rfl ka rfl ?_ | refine l_pF rfl ka rfl ?_ | refine d_gT rfl (fun h => ?_) (fun h => ?_) | refine d_gF rfl (fun h => ?_) (fun h => ?_) | (refine l_req rfl ?_ ?_; · exact rq_F3) | (refine l_lk rfl ?_; refine ⟨_, lk_F3, ?_⟩) | refine l_look (l' := _ :: _) rfl rfl ?_ | refine l_look (l' := []) rfl rfl ?_ | refine l_req rfl ?_ ?_)
        refine ⟨i + 1, ⟨by omega, by omega⟩, ?_⟩
        rw [he, hs]
        (refine le_of [(5000, 5000), (6000, 6000), (9000, 9000), (9001, 9001)] ?_; repeat' (first | exact trivial | refine an ?_ ?_ | with_reducible rfl | exact bt rfl | exact Or.inl rfl | exact Or.inr rfl | exact Eq.refl _))
        all_goals (first | omega | (simp; done) | (rw [wrap64] <;> omega) | (simp; omega))
    · have hc : decide ((i : Int) < (a.length : Int)) = false := by simp; omega
      have : i = a.length := by omega
      subst this
      repeat' (first | refine o_cons ?_ | refine w_ok rfl ?_ | refine o_nil ?_ | refine q_then ?_ | refine sq ?_ | refine aw_seq ?_ | refine aw_reg ?_ | refine w_pT rfl ka rfl ?_ | refine w_pF rfl ka rfl ?_ | refine o_y rfl ka ?_ | refine o_nT rfl ka ?_ | refine o_nF rfl ka ?_ | refine o_nU rfl ?_ | refine aw_cT rfl ka ?_ | refine aw_cF rfl ka ?_ | refine o_gT rfl (fun h => ?_) (fun h => ?_) | refine o_gF rfl (fun h => ?_) (fun h => ?_) | refine aw_cond rfl (fun h => ?_) (fun h => ?_) | refine aw_block ?_ | refine aw_skip ?_ | refine aw_ret ?_ | refine q_ret ?_ | refine q_blockN ?_ | refine q_blockR ?_ | refine aw_exit ?_ | refine q_exit ?_ | refine q_blockE ?_ | refine q_blockX de_ ?_ | refine fin_r rfl ?_ | (refine w_req rfl ?_ ?_; · exact rq_F3) | (refine w_lk rfl ?_; refine ⟨_, lk_F3, ?_⟩) | refine w_look (l' := _ :: _) rfl rfl ?_ | refine w_look (l' := []) rfl rfl ?_ | refine w_req rfl ?_ ?_ | refine w_pick rfl (fun b => ?_))
      exact agg_rows l1.symm l2.symm _
/-- of what was handed as one's own no more is asked -/
theorem forget5 {P : Program} {f : Nat} {pas : List PA} {res : Tr} {p0 p1 p2 p5 : PB} (h : AGood P f pas res [p0, .agg [p1, p2, .keep, .keep, p5]]) : AGood P f pas res [p0, .agg [.gone, .gone, .keep, .keep, .gone]] := by
  unfold AGood at *
  obtain ⟨h1, h2, h3⟩ := h
  refine ⟨h1, ?_, fun w vals F T a b c => callF_mono (h3 w vals F T a b c) ?_⟩
  · simp only [PB.okRL, PB.okR] at h2 ⊢
    exact ⟨h2.1, by simp⟩
  · rintro e w' ⟨v, F1, F2, he, ho, hb, hnd, hf⟩
    simp only [PBokL, PBok] at hb
    obtain ⟨v0, us, Fa, Fr, hv, k0, ⟨v1, us1, Fb, Fc, hv1, ⟨vs, hvs, kb⟩, ⟨hu1, hFc⟩, hFr⟩, hF2⟩ := hb
    obtain ⟨x1, t1, _, _, e1, _, ⟨x2, t2, _, _, e2, _, ⟨x3, t3, _, _, e3, _, ⟨x4, t4, _, _, e4, _, ⟨x5, t5, _, _, e5, _, ⟨e6, _⟩, _⟩, _⟩, _⟩, _⟩, _⟩ := kb
    refine ⟨v, F1, Fa, he, ho, ?_, ?_, ⟨hf.os, hf.tape, hf.output, hf.size, hf.same, fun k hk => hf.own k ?_⟩⟩
    · simp only [PBokL, PBok]
      refine ⟨v0, us, Fa, [], hv, k0, ⟨v1, us1, [], [], hv1, ⟨vs, hvs, ?_⟩, ⟨hu1, rfl⟩, rfl⟩, by simp⟩
      exact ⟨x1, t1, [], [], e1, rfl, ⟨x2, t2, [], [], e2, rfl, ⟨x3, t3, [], [], e3, rfl, ⟨x4, t4, [], [], e4, rfl, ⟨x5, t5, [], [], e5, rfl, ⟨e6, rfl⟩, rfl⟩, rfl⟩, rfl⟩, rfl⟩, rfl⟩
    · rw [hF2] at hnd
      exact List.Nodup.sublist (List.Sublist.append (List.Sublist.refl _) (List.sublist_append_left _ _)) hnd
    · rw [hF2]
      rcases List.mem_append.1 hk with h | h
      · exact List.mem_append_left _ h
      · exact List.mem_append_right _ (List.mem_append_left _ h)
abbrev oldP (s : St) : PB := .agg [.own (.row 1 s.a.length (sT s.a)), .own (.row 1 s.b.length (sT s.b)), .keep, .keep, .own (.row 4 s.u.length (uT s.u))]
abbrev goneP : PB := .agg [.gone, .gone, .keep, .keep, .gone]
theorem forgetS {P : Program} {f : Nat} {pas : List PA} {res : Tr} {p0 : PB} {s : St} (h : AGood P f pas res [p0, oldP s]) : AGood P f pas res [p0, goneP] := forget5 h
attribute [local irreducible] btC btX okM dropM syncM openM upAtM putS
theorem getD4 {a b c d : Int} {j : Nat} {P : Int → Prop} (h0 : P 0) (ha : P a) (hb : P b) (hc : P c) (hd : P d) : P (([a, b, c, d] : List Int).getD j 0) := by
  match j with
  | 0 => exact ha
  | 1 => exact hb
  | 2 => exact hc
  | 3 => exact hd
  | j + 4 => exact h0
theorem upAt_d {s : St} (g : StG s) (id : ByteArray) : ((upAtM s id).getD zeroU).d.length ≤ 10000 := by
  unfold upAtM
  cases ho : idxM s.u id with
  | none => exact (by decide : zeroU.d.length ≤ 10000)
  | some i => exact getD_all g.d (idx_lt ho)
/-- what comes ahead of a drawn step: which upload, and which kind of step -/
def SPre (l : List UInt8) (c d1 d2 : Cur) (id : ByteArray) (K : Int) : Prop :=
  AGood e.P 118 [curPA l l.length c, .ro (.row 1 3 (sT [⟨#[97]⟩, ⟨#[98]⟩, ⟨#[99]⟩]))] (.str id) [curPB d1, .keep] ∧ AGood e.P 116 [curPA l l.length d1, .ro (.int .i64 12)] (.int .i64 K) [curPB d2, .keep] ∧ id.size ≤ 1048576 ∧ d2.ok l
def SRes (l : List UInt8) (c : Cur) (s : St) : Prop := ∃ (s' : St) (c' : Cur), c'.ok l ∧ StG s' ∧ AGood e.P 136 [curPA l l.length c, stO s] (stT s') [curPB c', goneP]
theorem some0 (l : List UInt8) (hl : l.length ≤ 4294967296) (s : St) (g : StG s) {c d1 d2 : Cur} {id : ByteArray} (p : SPre l c d1 d2 id 0) : SRes l c s := by
  obtain ⟨s1, s2, hid, k2⟩ := p
  have s3 := l1Int l rfl d2 [0, 3, 30, 60] (k := 4) rfl (by decide) k2 hl
  obtain ⟨s', k', g', c4⟩ := makeUpS s g id hid (([0, 3, 30, 60] : List Int).getD (bwX l d2 4).toNat 0)
  refine ⟨s', bwC l d2 4, bwC_ok _ k2, g', forgetS (s := s) ?_⟩
  refine agood eok (fn := Try.f136) kr_ de_ rfl kr_ ok_F3 ok_F3 ?_
  repeat' (first | refine o_cons ?_ | refine w_ok rfl ?_ | refine w_call rfl (s1) ?_ | refine w_call rfl (s2) ?_ | refine w_call rfl (s3) ?_ | refine w_call rfl (c4) ?_ | refine o_nil ?_ | refine q_then ?_ | refine sq ?_ | refine aw_seq ?_ | refine aw_reg ?_ | refine w_pT rfl ka rfl ?_ | refine w_pF rfl ka rfl ?_ | refine o_y rfl ka ?_ | refine o_nT rfl ka ?_ | refine o_nF rfl ka ?_ | refine o_nU rfl ?_ | refine aw_cT rfl ka ?_ | refine aw_cF rfl ka ?_ | refine o_gT rfl (fun h => ?_) (fun h => ?_) | refine o_gF rfl (fun h => ?_) (fun h => ?_) | refine aw_cond rfl (fun h => ?_) (fun h => ?_) | refine aw_block ?_ | refine aw_skip ?_ | refine aw_ret ?_ | refine q_ret ?_ | refine q_blockN ?_ | refine q_blockR ?_ | refine aw_exit ?_ | refine q_exit ?_ | refine q_blockE ?_ | refine q_blockX de_ ?_ | refine fin_r rfl ?_ | (refine w_req rfl ?_ ?_; · exact rq_F3) | (refine w_lk rfl ?_; refine ⟨_, lk_F3, ?_⟩) | refine w_look (l' := _ :: _) rfl rfl ?_ | refine w_look (l' := []) rfl rfl ?_ | refine w_req rfl ?_ ?_ | refine w_pick rfl (fun b => ?_) | refine l_call rfl (s1) ?_ | refine l_call rfl (s2) ?_ | refine l_call rfl (s3) ?_ | refine l_call rfl (c4) ?_ | refine aw_drw kr_ ?_ | refine d_cons ?_ | refine l_ok rfl ?_ | refine d_nil kr_ ?_ | refine d_y rfl ka ?_ | refine d_nT rfl ka ?_ | refine d_nF rfl ka ?_ | refine d_nU rfl ?_ | refine l_pT rfl ka rfl ?_ | refine l_pF rfl ka rfl ?_ | refine d_gT rfl (fun h => ?_) (fun h => ?_) | refine d_gF rfl (fun h => ?_) (fun h => ?_) | (refine l_req rfl ?_ ?_; · exact rq_F3) | (refine l_lk rfl ?_; refine ⟨_, lk_F3, ?_⟩) | refine l_look (l' := _ :: _) rfl rfl ?_ | refine l_look (l' := []) rfl rfl ?_ | refine l_req rfl ?_ ?_)
  rfl
theorem some1 (l : List UInt8) (hl : l.length ≤ 4294967296) (s : St) (g : StG s) {c d1 d2 : Cur} {id : ByteArray} (p : SPre l c d1 d2 id 1) : SRes l c s := by
  obtain ⟨s1, s2, hid, k2⟩ := p
  have s3 := l1Int l rfl d2 [0, 3, 30, 60] (k := 4) rfl (by decide) k2 hl
  obtain ⟨s', k', g', c4⟩ := makeUpS s g id hid (([0, 3, 30, 60] : List Int).getD (bwX l d2 4).toNat 0)
  refine ⟨s', bwC l d2 4, bwC_ok _ k2, g', forgetS (s := s) ?_⟩
  refine agood eok (fn := Try.f136) kr_ de_ rfl kr_ ok_F3 ok_F3 ?_
  repeat' (first | refine o_cons ?_ | refine w_ok rfl ?_ | refine w_call rfl (s1) ?_ | refine w_call rfl (s2) ?_ | refine w_call rfl (s3) ?_ | refine w_call rfl (c4) ?_ | refine o_nil ?_ | refine q_then ?_ | refine sq ?_ | refine aw_seq ?_ | refine aw_reg ?_ | refine w_pT rfl ka rfl ?_ | refine w_pF rfl ka rfl ?_ | refine o_y rfl ka ?_ | refine o_nT rfl ka ?_ | refine o_nF rfl ka ?_ | refine o_nU rfl ?_ | refine aw_cT rfl ka ?_ | refine aw_cF rfl ka ?_ | refine o_gT rfl (fun h => ?_) (fun h => ?_) | refine o_gF rfl (fun h => ?_) (fun h => ?_) | refine aw_cond rfl (fun h => ?_) (fun h => ?_) | refine aw_block ?_ | refine aw_skip ?_ | refine aw_ret ?_ | refine q_ret ?_ | refine q_blockN ?_ | refine q_blockR ?_ | refine aw_exit ?_ | refine q_exit ?_ | refine q_blockE ?_ | refine q_blockX de_ ?_ | refine fin_r rfl ?_ | (refine w_req rfl ?_ ?_; · exact rq_F3) | (refine w_lk rfl ?_; refine ⟨_, lk_F3, ?_⟩) | refine w_look (l' := _ :: _) rfl rfl ?_ | refine w_look (l' := []) rfl rfl ?_ | refine w_req rfl ?_ ?_ | refine w_pick rfl (fun b => ?_) | refine l_call rfl (s1) ?_ | refine l_call rfl (s2) ?_ | refine l_call rfl (s3) ?_ | refine l_call rfl (c4) ?_ | refine aw_drw kr_ ?_ | refine d_cons ?_ | refine l_ok rfl ?_ | refine d_nil kr_ ?_ | refine d_y rfl ka ?_ | refine d_nT rfl ka ?_ | refine d_nF rfl ka ?_ | refine d_nU rfl ?_ | refine l_pT rfl ka rfl ?_ | refine l_pF rfl ka rfl ?_ | refine d_gT rfl (fun h => ?_) (fun h => ?_) | refine d_gF rfl (fun h => ?_) (fun h => ?_) | (refine l_req rfl ?_ ?_; · exact rq_F3) | (refine l_lk rfl ?_; refine ⟨_, lk_F3, ?_⟩) | refine l_look (l' := _ :: _) rfl rfl ?_ | refine l_look (l' := []) rfl rfl ?_ | refine l_req rfl ?_ ?_)
  rfl
theorem some6 (l : List UInt8) (hl : l.length ≤ 4294967296) (s : St) (g : StG s) {c d1 d2 : Cur} {id : ByteArray} (p : SPre l c d1 d2 id 6) : SRes l c s := by
  obtain ⟨s1, s2, hid, k2⟩ := p
  have hu := upAt_d g id
  have c0 := upAtS s id g.sm
  have c5 := crcS ((upAtM s id).getD zeroU).d rfl (by omega)
  obtain ⟨s', k', g', c4⟩ := doneUpS s g id hid (crcM ((upAtM s id).getD zeroU).d)
  refine ⟨s', d2, k2, g', forgetS (s := s) ?_⟩
  refine agood eok (fn := Try.f136) kr_ de_ rfl kr_ ok_F3 ok_F3 ?_
  repeat' (first | refine o_cons ?_ | refine w_ok rfl ?_ | refine w_call rfl (s1) ?_ | refine w_call rfl (s2) ?_ | refine w_call rfl (c0) ?_ | refine w_call rfl (c5) ?_ | refine w_call rfl (c4) ?_ | refine o_nil ?_ | refine q_then ?_ | refine sq ?_ | refine aw_seq ?_ | refine aw_reg ?_ | refine w_pT rfl ka rfl ?_ | refine w_pF rfl ka rfl ?_ | refine o_y rfl ka ?_ | refine o_nT rfl ka ?_ | refine o_nF rfl ka ?_ | refine o_nU rfl ?_ | refine aw_cT rfl ka ?_ | refine aw_cF rfl ka ?_ | refine o_gT rfl (fun h => ?_) (fun h => ?_) | refine o_gF rfl (fun h => ?_) (fun h => ?_) | refine aw_cond rfl (fun h => ?_) (fun h => ?_) | refine aw_block ?_ | refine aw_skip ?_ | refine aw_ret ?_ | refine q_ret ?_ | refine q_blockN ?_ | refine q_blockR ?_ | refine aw_exit ?_ | refine q_exit ?_ | refine q_blockE ?_ | refine q_blockX de_ ?_ | refine fin_r rfl ?_ | (refine w_req rfl ?_ ?_; · exact rq_F3) | (refine w_lk rfl ?_; refine ⟨_, lk_F3, ?_⟩) | refine w_look (l' := _ :: _) rfl rfl ?_ | refine w_look (l' := []) rfl rfl ?_ | refine w_req rfl ?_ ?_ | refine w_pick rfl (fun b => ?_) | refine l_call rfl (s1) ?_ | refine l_call rfl (s2) ?_ | refine l_call rfl (c0) ?_ | refine l_call rfl (c5) ?_ | refine l_call rfl (c4) ?_ | refine aw_drw kr_ ?_ | refine d_cons ?_ | refine l_ok rfl ?_ | refine d_nil kr_ ?_ | refine d_y rfl ka ?_ | refine d_nT rfl ka ?_ | refine d_nF rfl ka ?_ | refine d_nU rfl ?_ | refine l_pT rfl ka rfl ?_ | refine l_pF rfl ka rfl ?_ | refine d_gT rfl (fun h => ?_) (fun h => ?_) | refine d_gF rfl (fun h => ?_) (fun h => ?_) | (refine l_req rfl ?_ ?_; · exact rq_F3) | (refine l_lk rfl ?_; refine ⟨_, lk_F3, ?_⟩) | refine l_look (l' := _ :: _) rfl rfl ?_ | refine l_look (l' := []) rfl rfl ?_ | refine l_req rfl ?_ ?_)
  rfl
theorem some7 (l : List UInt8) (hl : l.length ≤ 4294967296) (s : St) (g : StG s) {c d1 d2 : Cur} {id : ByteArray} (p : SPre l c d1 d2 id 7) : SRes l c s := by
  obtain ⟨s1, s2, hid, k2⟩ := p
  have s3 := l1Once l rfl d2 3 k2 hl
  have k3 : (bwC l d2 3).ok l := bwC_ok _ k2
  cases hb : (bwX l d2 3 == 0) with
  | true =>
    rw [hb] at s3
    have c4 := dropS s id g.sm hid
    refine ⟨(dropM s id).1, bwC l d2 3, k3, drop_g g id, forgetS (s := s) ?_⟩
    refine agood eok (fn := Try.f136) kr_ de_ rfl kr_ ok_F3 ok_F3 ?_
    repeat' (first | refine o_cons ?_ | refine w_ok rfl ?_ | refine w_call rfl (s1) ?_ | refine w_call rfl (s2) ?_ | refine w_call rfl (s3) ?_ | refine w_call rfl (c4) ?_ | refine o_nil ?_ | refine q_then ?_ | refine sq ?_ | refine aw_seq ?_ | refine aw_reg ?_ | refine w_pT rfl ka rfl ?_ | refine w_pF rfl ka rfl ?_ | refine o_y rfl ka ?_ | refine o_nT rfl ka ?_ | refine o_nF rfl ka ?_ | refine o_nU rfl ?_ | refine aw_cT rfl ka ?_ | refine aw_cF rfl ka ?_ | refine o_gT rfl (fun h => ?_) (fun h => ?_) | refine o_gF rfl (fun h => ?_) (fun h => ?_) | refine aw_cond rfl (fun h => ?_) (fun h => ?_) | refine aw_block ?_ | refine aw_skip ?_ | refine aw_ret ?_ | refine q_ret ?_ | refine q_blockN ?_ | refine q_blockR ?_ | refine aw_exit ?_ | refine q_exit ?_ | refine q_blockE ?_ | refine q_blockX de_ ?_ | refine fin_r rfl ?_ | (refine w_req rfl ?_ ?_; · exact rq_F3) | (refine w_lk rfl ?_; refine ⟨_, lk_F3, ?_⟩) | refine w_look (l' := _ :: _) rfl rfl ?_ | refine w_look (l' := []) rfl rfl ?_ | refine w_req rfl ?_ ?_ | refine w_pick rfl (fun b => ?_) | refine l_call rfl (s1) ?_ | refine l_call rfl (s2) ?_ | refine l_call rfl (s3) ?_ | refine l_call rfl (c4) ?_ | refine aw_drw kr_ ?_ | refine d_cons ?_ | refine l_ok rfl ?_ | refine d_nil kr_ ?_ | refine d_y rfl ka ?_ | refine d_nT rfl ka ?_ | refine d_nF rfl ka ?_ | refine d_nU rfl ?_ | refine l_pT rfl ka rfl ?_ | refine l_pF rfl ka rfl ?_ | refine d_gT rfl (fun h => ?_) (fun h => ?_) | refine d_gF rfl (fun h => ?_) (fun h => ?_) | (refine l_req rfl ?_ ?_; · exact rq_F3) | (refine l_lk rfl ?_; refine ⟨_, lk_F3, ?_⟩) | refine l_look (l' := _ :: _) rfl rfl ?_ | refine l_look (l' := []) rfl rfl ?_ | refine l_req rfl ?_ ?_)
    rfl
  | false =>
    rw [hb] at s3
    refine ⟨s, bwC l d2 3, k3, g, ?_⟩
    refine agood eok (fn := Try.f136) kr_ de_ rfl kr_ ok_F3 ok_F3 ?_
    repeat' (first | refine o_cons ?_ | refine w_ok rfl ?_ | refine w_call rfl (s1) ?_ | refine w_call rfl (s2) ?_ | refine w_call rfl (s3) ?_ | refine o_nil ?_ | refine q_then ?_ | refine sq ?_ | refine aw_seq ?_ | refine aw_reg ?_ | refine w_pT rfl ka rfl ?_ | refine w_pF rfl ka rfl ?_ | refine o_y rfl ka ?_ | refine o_nT rfl ka ?_ | refine o_nF rfl ka ?_ | refine o_nU rfl ?_ | refine aw_cT rfl ka ?_ | refine aw_cF rfl ka ?_ | refine o_gT rfl (fun h => ?_) (fun h => ?_) | refine o_gF rfl (fun h => ?_) (fun h => ?_) | refine aw_cond rfl (fun h => ?_) (fun h => ?_) | refine aw_block ?_ | refine aw_skip ?_ | refine aw_ret ?_ | refine q_ret ?_ | refine q_blockN ?_ | refine q_blockR ?_ | refine aw_exit ?_ | refine q_exit ?_ | refine q_blockE ?_ | refine q_blockX de_ ?_ | refine fin_r rfl ?_ | (refine w_req rfl ?_ ?_; · exact rq_F3) | (refine w_lk rfl ?_; refine ⟨_, lk_F3, ?_⟩) | refine w_look (l' := _ :: _) rfl rfl ?_ | refine w_look (l' := []) rfl rfl ?_ | refine w_req rfl ?_ ?_ | refine w_pick rfl (fun b => ?_) | refine l_call rfl (s1) ?_ | refine l_call rfl (s2) ?_ | refine l_call rfl (s3) ?_ | refine aw_drw kr_ ?_ | refine d_cons ?_ | refine l_ok rfl ?_ | refine d_nil kr_ ?_ | refine d_y rfl ka ?_ | refine d_nT rfl ka ?_ | refine d_nF rfl ka ?_ | refine d_nU rfl ?_ | refine l_pT rfl ka rfl ?_ | refine l_pF rfl ka rfl ?_ | refine d_gT rfl (fun h => ?_) (fun h => ?_) | refine d_gF rfl (fun h => ?_) (fun h => ?_) | (refine l_req rfl ?_ ?_; · exact rq_F3) | (refine l_lk rfl ?_; refine ⟨_, lk_F3, ?_⟩) | refine l_look (l' := _ :: _) rfl rfl ?_ | refine l_look (l' := []) rfl rfl ?_ | refine l_req rfl ?_ ?_)
    rfl
theorem some8 (l : List UInt8) (hl : l.length ≤ 4294967296) (s : St) (g : StG s) {c d1 d2 : Cur} {id : ByteArray} (p : SPre l c d1 d2 id 8) : SRes l c s := by
  obtain ⟨s1, s2, hid, k2⟩ := p
  have c4 := syncS s g.sm
  refine ⟨syncM s, d2, k2, sync_g g, forgetS (s := s) ?_⟩
  refine agood eok (fn := Try.f136) kr_ de_ rfl kr_ ok_F3 ok_F3 ?_
  repeat' (first | refine o_cons ?_ | refine w_ok rfl ?_ | refine w_call rfl (s1) ?_ | refine w_call rfl (s2) ?_ | refine w_call rfl (c4) ?_ | refine o_nil ?_ | refine q_then ?_ | refine sq ?_ | refine aw_seq ?_ | refine aw_reg ?_ | refine w_pT rfl ka rfl ?_ | refine w_pF rfl ka rfl ?_ | refine o_y rfl ka ?_ | refine o_nT rfl ka ?_ | refine o_nF rfl ka ?_ | refine o_nU rfl ?_ | refine aw_cT rfl ka ?_ | refine aw_cF rfl ka ?_ | refine o_gT rfl (fun h => ?_) (fun h => ?_) | refine o_gF rfl (fun h => ?_) (fun h => ?_) | refine aw_cond rfl (fun h => ?_) (fun h => ?_) | refine aw_block ?_ | refine aw_skip ?_ | refine aw_ret ?_ | refine q_ret ?_ | refine q_blockN ?_ | refine q_blockR ?_ | refine aw_exit ?_ | refine q_exit ?_ | refine q_blockE ?_ | refine q_blockX de_ ?_ | refine fin_r rfl ?_ | (refine w_req rfl ?_ ?_; · exact rq_F3) | (refine w_lk rfl ?_; refine ⟨_, lk_F3, ?_⟩) | refine w_look (l' := _ :: _) rfl rfl ?_ | refine w_look (l' := []) rfl rfl ?_ | refine w_req rfl ?_ ?_ | refine w_pick rfl (fun b => ?_) | refine l_call rfl (s1) ?_ | refine l_call rfl (s2) ?_ | refine l_call rfl (c4) ?_ | refine aw_drw kr_ ?_ | refine d_cons ?_ | refine l_ok rfl ?_ | refine d_nil kr_ ?_ | refine d_y rfl ka ?_ | refine d_nT rfl ka ?_ | refine d_nF rfl ka ?_ | refine d_nU rfl ?_ | refine l_pT rfl ka rfl ?_ | refine l_pF rfl ka rfl ?_ | refine d_gT rfl (fun h => ?_) (fun h => ?_) | refine d_gF rfl (fun h => ?_) (fun h => ?_) | (refine l_req rfl ?_ ?_; · exact rq_F3) | (refine l_lk rfl ?_; refine ⟨_, lk_F3, ?_⟩) | refine l_look (l' := _ :: _) rfl rfl ?_ | refine l_look (l' := []) rfl rfl ?_ | refine l_req rfl ?_ ?_)
  rfl
theorem some9 (l : List UInt8) (hl : l.length ≤ 4294967296) (s : St) (g : StG s) {c d1 d2 : Cur} {id : ByteArray} (p : SPre l c d1 d2 id 9) : SRes l c s := by
  obtain ⟨s1, s2, hid, k2⟩ := p
  have c4 := syncS s g.sm
  refine ⟨syncM s, d2, k2, sync_g g, forgetS (s := s) ?_⟩
  refine agood eok (fn := Try.f136) kr_ de_ rfl kr_ ok_F3 ok_F3 ?_
  repeat' (first | refine o_cons ?_ | refine w_ok rfl ?_ | refine w_call rfl (s1) ?_ | refine w_call rfl (s2) ?_ | refine w_call rfl (c4) ?_ | refine o_nil ?_ | refine q_then ?_ | refine sq ?_ | refine aw_seq ?_ | refine aw_reg ?_ | refine w_pT rfl ka rfl ?_ | refine w_pF rfl ka rfl ?_ | refine o_y rfl ka ?_ | refine o_nT rfl ka ?_ | refine o_nF rfl ka ?_ | refine o_nU rfl ?_ | refine aw_cT rfl ka ?_ | refine aw_cF rfl ka ?_ | refine o_gT rfl (fun h => ?_) (fun h => ?_) | refine o_gF rfl (fun h => ?_) (fun h => ?_) | refine aw_cond rfl (fun h => ?_) (fun h => ?_) | refine aw_block ?_ | refine aw_skip ?_ | refine aw_ret ?_ | refine q_ret ?_ | refine q_blockN ?_ | refine q_blockR ?_ | refine aw_exit ?_ | refine q_exit ?_ | refine q_blockE ?_ | refine q_blockX de_ ?_ | refine fin_r rfl ?_ | (refine w_req rfl ?_ ?_; · exact rq_F3) | (refine w_lk rfl ?_; refine ⟨_, lk_F3, ?_⟩) | refine w_look (l' := _ :: _) rfl rfl ?_ | refine w_look (l' := []) rfl rfl ?_ | refine w_req rfl ?_ ?_ | refine w_pick rfl (fun b => ?_) | refine l_call rfl (s1) ?_ | refine l_call rfl (s2) ?_ | refine l_call rfl (c4) ?_ | refine aw_drw kr_ ?_ | refine d_cons ?_ | refine l_ok rfl ?_ | refine d_nil kr_ ?_ | refine d_y rfl ka ?_ | refine d_nT rfl ka ?_ | refine d_nF rfl ka ?_ | refine d_nU rfl ?_ | refine l_pT rfl ka rfl ?_ | refine l_pF rfl ka rfl ?_ | refine d_gT rfl (fun h => ?_) (fun h => ?_) | refine d_gF rfl (fun h => ?_) (fun h => ?_) | (refine l_req rfl ?_ ?_; · exact rq_F3) | (refine l_lk rfl ?_; refine ⟨_, lk_F3, ?_⟩) | refine l_look (l' := _ :: _) rfl rfl ?_ | refine l_look (l' := []) rfl rfl ?_ | refine l_req rfl ?_ ?_)
  rfl
theorem someO (l : List UInt8) (hl : l.length ≤ 4294967296) (s : St) (g : StG s) {c d1 d2 : Cur} {id : ByteArray} {K : Int} (p : SPre l c d1 d2 id K) (dn : ∀ x : Int, 0 ≤ x → x ≤ 9 → (K == x) = false) : SRes l c s := by
  obtain ⟨s1, s2, hid, k2⟩ := p
  have q0 := dn 0 (by decide) (by decide)
  have q1 := dn 1 (by decide) (by decide)
  have q2 := dn 2 (by decide) (by decide)
  have q3 := dn 3 (by decide) (by decide)
  have q4 := dn 4 (by decide) (by decide)
  have q5 := dn 5 (by decide) (by decide)
  have q6 := dn 6 (by decide) (by decide)
  have q7 := dn 7 (by decide) (by decide)
  have q8 := dn 8 (by decide) (by decide)
  have q9 := dn 9 (by decide) (by decide)
  clear dn
  obtain ⟨kept, d3, k3, hkl, s3⟩ := keptS l rfl d2 k2 hl
  obtain ⟨a', b', c4⟩ := fallS s.a s.b rfl rfl g.a g.b g.az g.bz kept rfl hkl
  have c5 := openS a' b' rfl rfl
  cases ho : openM a' b' with
  | none =>
    rw [ho] at c5
    have c5 : AGood e.P 59 [dkR a' b' a'.length b'.length] (.tup [stT zeroSt, .bool false]) [keep2] := c5
    refine ⟨s, d3, k3, g, ?_⟩
    refine agood eok (fn := Try.f136) kr_ de_ rfl kr_ ok_F3 ok_F3 ?_
    repeat' (first | refine o_cons ?_ | refine w_ok rfl ?_ | refine w_call rfl (s1) ?_ | refine w_call rfl (s2) ?_ | refine w_call rfl (s3) ?_ | refine w_call rfl (c4) ?_ | refine w_call rfl (c5) ?_ | refine o_nil ?_ | refine q_then ?_ | refine sq ?_ | refine aw_seq ?_ | refine aw_reg ?_ | refine w_pT rfl ka rfl ?_ | refine w_pF rfl ka rfl ?_ | refine o_y rfl ka ?_ | refine o_nT rfl ka ?_ | refine o_nF rfl ka ?_ | refine o_nU rfl ?_ | refine aw_cT rfl ka ?_ | refine aw_cF rfl ka ?_ | refine o_gT rfl (fun h => ?_) (fun h => ?_) | refine o_gF rfl (fun h => ?_) (fun h => ?_) | refine aw_cond rfl (fun h => ?_) (fun h => ?_) | refine aw_block ?_ | refine aw_skip ?_ | refine aw_ret ?_ | refine q_ret ?_ | refine q_blockN ?_ | refine q_blockR ?_ | refine aw_exit ?_ | refine q_exit ?_ | refine q_blockE ?_ | refine q_blockX de_ ?_ | refine fin_r rfl ?_ | (refine w_req rfl ?_ ?_; · exact rq_F3) | (refine w_lk rfl ?_; refine ⟨_, lk_F3, ?_⟩) | refine w_look (l' := _ :: _) rfl rfl ?_ | refine w_look (l' := []) rfl rfl ?_ | refine w_req rfl ?_ ?_ | refine w_pick rfl (fun b => ?_) | refine l_call rfl (s1) ?_ | refine l_call rfl (s2) ?_ | refine l_call rfl (s3) ?_ | refine l_call rfl (c4) ?_ | refine l_call rfl (c5) ?_ | refine aw_drw kr_ ?_ | refine d_cons ?_ | refine l_ok rfl ?_ | refine d_nil kr_ ?_ | refine d_y rfl ka ?_ | refine d_nT rfl ka ?_ | refine d_nF rfl ka ?_ | refine d_nU rfl ?_ | refine l_pT rfl ka rfl ?_ | refine l_pF rfl ka rfl ?_ | refine d_gT rfl (fun h => ?_) (fun h => ?_) | refine d_gF rfl (fun h => ?_) (fun h => ?_) | (refine l_req rfl ?_ ?_; · exact rq_F3) | (refine l_lk rfl ?_; refine ⟨_, lk_F3, ?_⟩) | refine l_look (l' := _ :: _) rfl rfl ?_ | refine l_look (l' := []) rfl rfl ?_ | refine l_req rfl ?_ ?_)
    rfl
  | some t =>
    rw [ho] at c5
    have c5 : AGood e.P 59 [dkR a' b' a'.length b'.length] (.tup [stT t, .bool true]) [keep2] := c5
    refine ⟨t, d3, k3, open_g ho, forgetS (s := s) ?_⟩
    refine agood eok (fn := Try.f136) kr_ de_ rfl kr_ ok_F3 ok_F3 ?_
    repeat' (first | refine o_cons ?_ | refine w_ok rfl ?_ | refine w_call rfl (s1) ?_ | refine w_call rfl (s2) ?_ | refine w_call rfl (s3) ?_ | refine w_call rfl (c4) ?_ | refine w_call rfl (c5) ?_ | refine o_nil ?_ | refine q_then ?_ | refine sq ?_ | refine aw_seq ?_ | refine aw_reg ?_ | refine w_pT rfl ka rfl ?_ | refine w_pF rfl ka rfl ?_ | refine o_y rfl ka ?_ | refine o_nT rfl ka ?_ | refine o_nF rfl ka ?_ | refine o_nU rfl ?_ | refine aw_cT rfl ka ?_ | refine aw_cF rfl ka ?_ | refine o_gT rfl (fun h => ?_) (fun h => ?_) | refine o_gF rfl (fun h => ?_) (fun h => ?_) | refine aw_cond rfl (fun h => ?_) (fun h => ?_) | refine aw_block ?_ | refine aw_skip ?_ | refine aw_ret ?_ | refine q_ret ?_ | refine q_blockN ?_ | refine q_blockR ?_ | refine aw_exit ?_ | refine q_exit ?_ | refine q_blockE ?_ | refine q_blockX de_ ?_ | refine fin_r rfl ?_ | (refine w_req rfl ?_ ?_; · exact rq_F3) | (refine w_lk rfl ?_; refine ⟨_, lk_F3, ?_⟩) | refine w_look (l' := _ :: _) rfl rfl ?_ | refine w_look (l' := []) rfl rfl ?_ | refine w_req rfl ?_ ?_ | refine w_pick rfl (fun b => ?_) | refine l_call rfl (s1) ?_ | refine l_call rfl (s2) ?_ | refine l_call rfl (s3) ?_ | refine l_call rfl (c4) ?_ | refine l_call rfl (c5) ?_ | refine aw_drw kr_ ?_ | refine d_cons ?_ | refine l_ok rfl ?_ | refine d_nil kr_ ?_ | refine d_y rfl ka ?_ | refine d_nT rfl ka ?_ | refine d_nF rfl ka ?_ | refine d_nU rfl ?_ | refine l_pT rfl ka rfl ?_ | refine l_pF rfl ka rfl ?_ | refine d_gT rfl (fun h => ?_) (fun h => ?_) | refine d_gF rfl (fun h => ?_) (fun h => ?_) | (refine l_req rfl ?_ ?_; · exact rq_F3) | (refine l_lk rfl ?_; refine ⟨_, lk_F3, ?_⟩) | refine l_look (l' := _ :: _) rfl rfl ?_ | refine l_look (l' := []) rfl rfl ?_ | refine l_req rfl ?_ ?_)
    rfl
end Go.Proofs.Ytbkpmljdmlhmhaa
