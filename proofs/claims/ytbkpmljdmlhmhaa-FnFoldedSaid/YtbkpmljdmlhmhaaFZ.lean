import Derived.Test.YtbkpmljdmlhmhaaF4
import Derived.Test.YtbkpmljdmlhmhaaF6
import Derived.Test.YtbkpmljdmlhmhaaOP
namespace Go.Proofs.Ytbkpmljdmlhmhaa
open Go Go.AM Ty
set_option maxRecDepth 100000
set_option maxHeartbeats 4000000
set_option linter.unusedVariables false
set_option linter.unusedSimpArgs false
attribute [local irreducible] aw aops aopsD wpo wpoL condW guardW thenQ blockQ finQ Le AGood
theorem rq_F5 {p : Prop} (h : p := by first | assumption | exact uT_plain _ | exact sT_plain _ | exact rT_plain _ | exact nT_plain _ | exact rq_) : p := h
theorem lk_F5 {p : Prop} (h : p := by first | exact bT_app _ _ | exact rT_snoc _ rfl | exact lk_) : p := h
theorem ok_F5 {p : Prop} (h : p := by first | exact ⟨⟨⟨sT_plain _, sT_plain _, trivial, trivial, uT_plain _, trivial⟩, by simp [cells1, Tr.cellB]⟩, trivial, trivial⟩ | exact ⟨⟨sT_plain _, sT_plain _, trivial, trivial, uT_plain _, trivial⟩, by simp [cells1, Tr.cellB]⟩ | (simp [Tr.okR, Tr.okRL, Tr.plainL, Tr.plain, cells1, Tr.cellB, PB.okRL, PB.okR, bT_plain, sT_plain, oT_plain, nT_plain, uT_plain, sT_plain, rT_plain]; done) | exact ok_) : p := h
attribute [local irreducible] bwC bwX btC btX dOk okM scanM rdC rdR
theorem someS (l : List UInt8) {m : Nat} (hm : m = l.length) (c : Cur) (hc : c.ok l) (hl : l.length ≤ 4294967296) (s : St) (g : StG s) : ∃ (s' : St) (c' : Cur), c'.ok l ∧ StG s' ∧ AGood e.P 136 [curPA l m c, stO s] (stT s') [curPB c', goneP] := by
  subst hm
  have s1 : AGood e.P 118 [curPA l l.length c, .ro (.row 1 3 (sT [⟨#[97]⟩, ⟨#[98]⟩, ⟨#[99]⟩]))] (.str (([⟨#[97]⟩, ⟨#[98]⟩, ⟨#[99]⟩] : List ByteArray).getD (bwX l c 3).toNat emp)) [curPB (bwC l c 3), .keep] := l1Str l rfl c [⟨#[97]⟩, ⟨#[98]⟩, ⟨#[99]⟩] (k := 3) rfl (by decide) hc hl
  have hid : (([⟨#[97]⟩, ⟨#[98]⟩, ⟨#[99]⟩] : List ByteArray).getD (bwX l c 3).toNat emp).size ≤ 1048576 := by
    generalize (bwX l c 3).toNat = j
    match j with
    | 0 => decide
    | 1 => decide
    | 2 => decide
    | j + 3 => exact (by decide : (emp : ByteArray).size ≤ 1048576)
  have k1 : (bwC l c 3).ok l := bwC_ok _ hc
  have s2 := l1Below l rfl (bwC l c 3) 12 k1 hl
  have p : SPre l c (bwC l c 3) (bwC l (bwC l c 3) 12) (([⟨#[97]⟩, ⟨#[98]⟩, ⟨#[99]⟩] : List ByteArray).getD (bwX l c 3).toNat emp) (bwX l (bwC l c 3) 12) := ⟨s1, s2, hid, bwC_ok _ k1⟩
  generalize bwX l (bwC l c 3) 12 = K at p
  show SRes l c s
  by_cases h0 : K = 0
  · subst h0; exact some0 l hl s g p
  by_cases h1 : K = 1
  · subst h1; exact some1 l hl s g p
  by_cases h2 : K = 2
  · subst h2; exact some2 l hl s g p
  by_cases h3 : K = 3
  · subst h3; exact some3 l hl s g p
  by_cases h4 : K = 4
  · subst h4; exact some4 l hl s g p
  by_cases h5 : K = 5
  · subst h5; exact some5 l hl s g p
  by_cases h6 : K = 6
  · subst h6; exact some6 l hl s g p
  by_cases h7 : K = 7
  · subst h7; exact some7 l hl s g p
  by_cases h8 : K = 8
  · subst h8; exact some8 l hl s g p
  by_cases h9 : K = 9
  · subst h9; exact some9 l hl s g p
  refine someO l hl s g p (fun x hx1 hx2 => ?_)
  rw [beq_eq_false_iff_ne]
  omega
/-- a cursor and a store that are right -/
abbrev DS (l : List UInt8) : Type := { p : Cur × St // p.1.ok l ∧ StG p.2 }
theorem next_ex (l : List UInt8) (hl : l.length ≤ 4294967296) (p : DS l) : ∃ q : DS l, AGood e.P 136 [curPA l l.length p.1.1, stO p.1.2] (stT q.1.2) [curPB q.1.1, goneP] := by
  obtain ⟨s', c', h1, h2, h3⟩ := someS l rfl p.1.1 p.2.1 hl p.1.2 p.2.2
  exact ⟨⟨(c', s'), h1, h2⟩, h3⟩
noncomputable def nextD (l : List UInt8) (hl : l.length ≤ 4294967296) (p : DS l) : DS l := Classical.choose (next_ex l hl p)
theorem nextD_ok (l : List UInt8) (hl : l.length ≤ 4294967296) (p : DS l) : AGood e.P 136 [curPA l l.length p.1.1, stO p.1.2] (stT (nextD l hl p).1.2) [curPB (nextD l hl p).1.1, goneP] := Classical.choose_spec (next_ex l hl p)
noncomputable def iterD (l : List UInt8) (hl : l.length ≤ 4294967296) (p : DS l) : Nat → DS l
  | 0 => p
  | i + 1 => nextD l hl (iterD l hl p i)
def newSt (n : Int) : St := ⟨List.replicate n.toNat emp, List.replicate n.toNat emp, 0, 0, []⟩
theorem storeNewS (n : Int) (hn : n ≤ 200) : AGood e.P 135 [.ro (.int .i64 n)] (stT (newSt n)) [.keep] := by
  have c1 := diskNewS n hn
  refine agood eok (fn := Try.f135) kr_ de_ rfl kr_ ok_F5 ok_F5 ?_
  repeat' (first | refine o_cons ?_ | refine w_ok rfl ?_ | refine w_call rfl (c1) ?_ | refine o_nil ?_ | refine q_then ?_ | refine sq ?_ | refine aw_seq ?_ | refine aw_reg ?_ | refine w_pT rfl ka rfl ?_ | refine w_pF rfl ka rfl ?_ | refine o_y rfl ka ?_ | refine o_nT rfl ka ?_ | refine o_nF rfl ka ?_ | refine o_nU rfl ?_ | refine aw_cT rfl ka ?_ | refine aw_cF rfl ka ?_ | refine o_gT rfl (fun h => ?_) (fun h => ?_) | refine o_gF rfl (fun h => ?_) (fun h => ?_) | refine aw_cond rfl (fun h => ?_) (fun h => ?_) | refine aw_block ?_ | refine aw_skip ?_ | refine aw_ret ?_ | refine q_ret ?_ | refine q_blockN ?_ | refine q_blockR ?_ | refine aw_exit ?_ | refine q_exit ?_ | refine q_blockE ?_ | refine q_blockX de_ ?_ | refine fin_r rfl ?_ | (refine w_req rfl ?_ ?_; · exact rq_F5) | (refine w_lk rfl ?_; refine ⟨_, lk_F5, ?_⟩) | refine w_look (l' := _ :: _) rfl rfl ?_ | refine w_look (l' := []) rfl rfl ?_ | refine w_req rfl ?_ ?_ | refine w_pick rfl (fun b => ?_) | refine l_call rfl (c1) ?_ | refine aw_drw kr_ ?_ | refine d_cons ?_ | refine l_ok rfl ?_ | refine d_nil kr_ ?_ | refine d_y rfl ka ?_ | refine d_nT rfl ka ?_ | refine d_nF rfl ka ?_ | refine d_nU rfl ?_ | refine l_pT rfl ka rfl ?_ | refine l_pF rfl ka rfl ?_ | refine d_gT rfl (fun h => ?_) (fun h => ?_) | refine d_gF rfl (fun h => ?_) (fun h => ?_) | (refine l_req rfl ?_ ?_; · exact rq_F5) | (refine l_lk rfl ?_; refine ⟨_, lk_F5, ?_⟩) | refine l_look (l' := _ :: _) rfl rfl ?_ | refine l_look (l' := []) rfl rfl ?_ | refine l_req rfl ?_ ?_)
  rfl
theorem newSt_g {n : Int} (hn : n ≤ 200) : StG (newSt n) :=
  ⟨by simp [newSt]; omega, by simp [newSt]; omega, fun x hx => by rw [List.eq_of_mem_replicate hx]; decide, fun x hx => by rw [List.eq_of_mem_replicate hx]; decide, by simp [newSt], by simp [newSt], fun x hx => by cases hx⟩
theorem drawS (l : List UInt8) {m : Nat} (hm : m = l.length) (c : Cur) (hc : c.ok l) (hl : l.length ≤ 4294967296) (most : Int) (hm2 : most ≤ 1000) : ∃ (s : St) (c' : Cur), c'.ok l ∧ StG s ∧ AGood e.P 97 [curPA l m c, .ro (.int .i64 most)] (stT s) [curPB c', .keep] := by
  subst hm
  have s1 : AGood e.P 117 [curPA l l.length c, .ro (.row 1 4 (nT [30, 30, 8, 0]))] (.int .i64 (([30, 30, 8, 0] : List Int).getD (bwX l c 4).toNat 0)) [curPB (bwC l c 4), .keep] := l1Int l rfl c [30, 30, 8, 0] (k := 4) rfl (by decide) hc hl
  have hN : 0 ≤ ([30, 30, 8, 0] : List Int).getD (bwX l c 4).toNat 0 ∧ ([30, 30, 8, 0] : List Int).getD (bwX l c 4).toNat 0 ≤ 30 := getD4 (P := fun x => 0 ≤ x ∧ x ≤ 30) (by decide) (by decide) (by decide) (by decide) (by decide)
  generalize ([30, 30, 8, 0] : List Int).getD (bwX l c 4).toNat 0 = N at s1 hN
  have k1 : (bwC l c 4).ok l := bwC_ok _ hc
  generalize bwC l c 4 = d1 at s1 k1
  have c1 := storeNewS N (by omega)
  have s2 := l1Below l rfl d1 most k1 hl
  have k2 : (bwC l d1 most).ok l := bwC_ok _ k1
  have hb : bwX l d1 most < 1000 := by
    by_cases h0 : 0 < most
    · have := bwX_bd l d1 h0; omega
    · unfold bwX; rw [if_pos (by omega)]; decide
  generalize bwC l d1 most = d2 at s2 k2
  generalize bwX l d1 most = K at s2 hb
  let p0 : DS l := ⟨(d2, newSt N), k2, newSt_g (by omega)⟩
  have hp0 : p0.1 = (d2, newSt N) := rfl
  have hit : ∀ i, iterD l hl p0 (i + 1) = nextD l hl (iterD l hl p0 i) := fun _ => rfl
  have hi0 : iterD l hl p0 0 = p0 := rfl
  generalize hfe : iterD l hl p0 = f at *
  refine ⟨(f K.toNat).1.2, (f K.toNat).1.1, (f K.toNat).2.1, (f K.toNat).2.2, ?_⟩
  refine agood eok (fn := Try.f97) kr_ de_ rfl kr_ ok_F5 ok_F5 ?_
  repeat' (first | refine o_cons ?_ | refine w_ok rfl ?_ | refine w_call rfl (s1) ?_ | refine w_call rfl (c1) ?_ | refine w_call rfl (s2) ?_ | refine o_nil ?_ | refine q_then ?_ | refine sq ?_ | refine aw_seq ?_ | refine aw_reg ?_ | refine w_pT rfl ka rfl ?_ | refine w_pF rfl ka rfl ?_ | refine o_y rfl ka ?_ | refine o_nT rfl ka ?_ | refine o_nF rfl ka ?_ | refine o_nU rfl ?_ | refine aw_cT rfl ka ?_ | refine aw_cF rfl ka ?_ | refine o_gT rfl (fun h => ?_) (fun h => ?_) | refine o_gF rfl (fun h => ?_) (fun h => ?_) | refine aw_cond rfl (fun h => ?_) (fun h => ?_) | refine aw_block ?_ | refine aw_skip ?_ | refine aw_ret ?_ | refine q_ret ?_ | refine q_blockN ?_ | refine q_blockR ?_ | refine aw_exit ?_ | refine q_exit ?_ | refine q_blockE ?_ | refine q_blockX de_ ?_ | refine fin_r rfl ?_ | (refine w_req rfl ?_ ?_; · exact rq_F5) | (refine w_lk rfl ?_; refine ⟨_, lk_F5, ?_⟩) | refine w_look (l' := _ :: _) rfl rfl ?_ | refine w_look (l' := []) rfl rfl ?_ | refine w_req rfl ?_ ?_ | refine w_pick rfl (fun b => ?_) | refine l_call rfl (s1) ?_ | refine l_call rfl (c1) ?_ | refine l_call rfl (s2) ?_ | refine aw_drw kr_ ?_ | refine d_cons ?_ | refine l_ok rfl ?_ | refine d_nil kr_ ?_ | refine d_y rfl ka ?_ | refine d_nT rfl ka ?_ | refine d_nF rfl ka ?_ | refine d_nU rfl ?_ | refine l_pT rfl ka rfl ?_ | refine l_pF rfl ka rfl ?_ | refine d_gT rfl (fun h => ?_) (fun h => ?_) | refine d_gF rfl (fun h => ?_) (fun h => ?_) | (refine l_req rfl ?_ ?_; · exact rq_F5) | (refine l_lk rfl ?_; refine ⟨_, lk_F5, ?_⟩) | refine l_look (l' := _ :: _) rfl rfl ?_ | refine l_look (l' := []) rfl rfl ?_ | refine l_req rfl ?_ ?_)
  refine loop1 (fun i : Nat => ⟨tbl [(0, .ptr 0 0 0 0), (4, .ptr 5000 0 0 0), (5, .ptr 6000 0 0 0), (6, .int .i64 (K - i))], mbl [(0, .box 0 124 [.ro (some 0) 1 l.length (bT l), .int .i64 (f i).1.1.i, .int .i64 (f i).1.1.h]), (5000, .box 0 56 [.nils, .nils, .int .i64 0, .int .i64 0, .nils]), (6000, .box 0 56 [.own 21000 0, .own 21001 0, .int .i64 (f i).1.2.e, .int .i64 (f i).1.2.n, .own 21002 0]), (21000, .row 0 0 1 (f i).1.2.a.length (sT (f i).1.2.a)), (21001, .row 0 0 1 (f i).1.2.b.length (sT (f i).1.2.b)), (21002, .row 0 0 4 (f i).1.2.u.length (uT (f i).1.2.u))], [.ptr 0 0 0 0, .int .i64 most]⟩) (fun i => (i : Int) ≤ max K 0) (fun i => K.toNat - i) 0 (by omega) ?_ ?_
  · rw [hi0, hp0]
    (refine le_of [(0, 0), (5000, 5000), (6000, 6000), (21000, 11000), (21001, 11001), (21002, 11002)] ?_; repeat' (first | exact trivial | refine an ?_ ?_ | with_reducible rfl | exact bt rfl | exact Or.inl rfl | exact Or.inr rfl | exact Eq.refl _))
    all_goals (first | omega | (simp; done) | (rw [wrap64] <;> omega) | (simp; omega))
  intro i hi
  by_cases hk : K - (i : Int) > 0
  · have q1 : decide (K - (i : Int) > 0) = true := decide_eq_true hk
    have c2 := nextD_ok l hl (f i)
    rw [← hit i] at c2
    repeat' (first | refine o_cons ?_ | refine w_ok rfl ?_ | refine w_call rfl (c2) ?_ | refine o_nil ?_ | refine q_then ?_ | refine sq ?_ | refine aw_seq ?_ | refine aw_reg ?_ | refine w_pT rfl ka rfl ?_ | refine w_pF rfl ka rfl ?_ | refine o_y rfl ka ?_ | refine o_nT rfl ka ?_ | refine o_nF rfl ka ?_ | refine o_nU rfl ?_ | refine aw_cT rfl ka ?_ | refine aw_cF rfl ka ?_ | refine o_gT rfl (fun h => ?_) (fun h => ?_) | refine o_gF rfl (fun h => ?_) (fun h => ?_) | refine aw_cond rfl (fun h => ?_) (fun h => ?_) | refine aw_block ?_ | refine aw_skip ?_ | refine aw_ret ?_ | refine q_ret ?_ | refine q_blockN ?_ | refine q_blockR ?_ | refine aw_exit ?_ | refine q_exit ?_ | refine q_blockE ?_ | refine q_blockX de_ ?_ | refine fin_r rfl ?_ | (refine w_req rfl ?_ ?_; · exact rq_F5) | (refine w_lk rfl ?_; refine ⟨_, lk_F5, ?_⟩) | refine w_look (l' := _ :: _) rfl rfl ?_ | refine w_look (l' := []) rfl rfl ?_ | refine w_req rfl ?_ ?_ | refine w_pick rfl (fun b => ?_) | refine l_call rfl (c2) ?_ | refine aw_drw kr_ ?_ | refine d_cons ?_ | refine l_ok rfl ?_ | refine d_nil kr_ ?_ | refine d_y rfl ka ?_ | refine d_nT rfl ka ?_ | refine d_nF rfl ka ?_ | refine d_nU rfl ?_ | refine l_pT rfl ka rfl ?_ | refine l_pF rfl ka rfl ?_ | refine d_gT rfl (fun h => ?_) (fun h => ?_) | refine d_gF rfl (fun h => ?_) (fun h => ?_) | (refine l_req rfl ?_ ?_; · exact rq_F5) | (refine l_lk rfl ?_; refine ⟨_, lk_F5, ?_⟩) | refine l_look (l' := _ :: _) rfl rfl ?_ | refine l_look (l' := []) rfl rfl ?_ | refine l_req rfl ?_ ?_)
    refine ⟨i + 1, ⟨by omega, by omega⟩, ?_⟩
    (refine le_of [(0, 0), (5000, 5000), (6000, 6000), (21000, 21000), (21001, 21001), (21002, 21002)] ?_; repeat' (first | exact trivial | refine an ?_ ?_ | with_reducible rfl | exact bt rfl | exact Or.inl rfl | exact Or.inr rfl | exact Eq.refl _))
    all_goals (first | omega | (simp; done) | (rw [wrap64] <;> omega) | (simp; omega))
  · have q1 : decide (K - (i : Int) > 0) = false := decide_eq_false hk
    have : i = K.toNat := by omega
    subst this
    repeat' (first | refine o_cons ?_ | refine w_ok rfl ?_ | refine o_nil ?_ | refine q_then ?_ | refine sq ?_ | refine aw_seq ?_ | refine aw_reg ?_ | refine w_pT rfl ka rfl ?_ | refine w_pF rfl ka rfl ?_ | refine o_y rfl ka ?_ | refine o_nT rfl ka ?_ | refine o_nF rfl ka ?_ | refine o_nU rfl ?_ | refine aw_cT rfl ka ?_ | refine aw_cF rfl ka ?_ | refine o_gT rfl (fun h => ?_) (fun h => ?_) | refine o_gF rfl (fun h => ?_) (fun h => ?_) | refine aw_cond rfl (fun h => ?_) (fun h => ?_) | refine aw_block ?_ | refine aw_skip ?_ | refine aw_ret ?_ | refine q_ret ?_ | refine q_blockN ?_ | refine q_blockR ?_ | refine aw_exit ?_ | refine q_exit ?_ | refine q_blockE ?_ | refine q_blockX de_ ?_ | refine fin_r rfl ?_ | (refine w_req rfl ?_ ?_; · exact rq_F5) | (refine w_lk rfl ?_; refine ⟨_, lk_F5, ?_⟩) | refine w_look (l' := _ :: _) rfl rfl ?_ | refine w_look (l' := []) rfl rfl ?_ | refine w_req rfl ?_ ?_ | refine w_pick rfl (fun b => ?_))
    rfl
/-- the records that are drawn -/
theorem drawFoldRecs (l : List UInt8) {m : Nat} (hm : m = l.length) (hl : l.length ≤ 4294967296) : ∃ L : List Rc, (L.length ≤ 201 ∧ (∀ r ∈ L, r.k = 1 → 0 ≤ r.n) ∧ ∀ r ∈ L, r.d.length ≤ 24) ∧ AGood e.P 56 [.ro (.row 1 m (bT l))] (.row 6 L.length (rT L)) [.keep] := by
  subst hm
  have hok : Cur.ok ⟨0, newH l⟩ l := ⟨Int.le_refl _, by simp⟩
  have c1 := l1New l rfl hl
  obtain ⟨r, hr1, _, c2⟩ := l1Size l rfl 20 hl
  obtain ⟨s, d1, k1, g, c3⟩ := drawS l rfl ⟨0, newH l⟩ hok hl r (by omega)
  have c4 := scanS s.a s.b (n := s.b.length) rfl (by have := g.a; omega) (fun x hx => by have := g.az x hx; omega)
  have hsl := scanM_len s.a
  have ga := g.a
  have c5 := l1Once l rfl d1 3 k1 hl
  have k2 : (bwC l d1 3).ok l := bwC_ok _ k1
  have hd := scan_d (a := s.a)
  have hn := scan_n (a := s.a)
  generalize bwC l d1 3 = d2 at c5 k2
  cases hb : (bwX l d1 3 == 0) with
  | false =>
    rw [hb] at c5
    refine ⟨scanM s.a, ⟨by omega, hn, hd⟩, ?_⟩
    refine agood eok (fn := Try.f56) kr_ de_ rfl kr_ ok_F5 ok_F5 ?_
    repeat' (first | refine o_cons ?_ | refine w_ok rfl ?_ | refine w_call rfl (c1) ?_ | refine w_call rfl (c2) ?_ | refine w_call rfl (c3) ?_ | refine w_call rfl (c4) ?_ | refine w_call rfl (c5) ?_ | refine o_nil ?_ | refine q_then ?_ | refine sq ?_ | refine aw_seq ?_ | refine aw_reg ?_ | refine w_pT rfl ka rfl ?_ | refine w_pF rfl ka rfl ?_ | refine o_y rfl ka ?_ | refine o_nT rfl ka ?_ | refine o_nF rfl ka ?_ | refine o_nU rfl ?_ | refine aw_cT rfl ka ?_ | refine aw_cF rfl ka ?_ | refine o_gT rfl (fun h => ?_) (fun h => ?_) | refine o_gF rfl (fun h => ?_) (fun h => ?_) | refine aw_cond rfl (fun h => ?_) (fun h => ?_) | refine aw_block ?_ | refine aw_skip ?_ | refine aw_ret ?_ | refine q_ret ?_ | refine q_blockN ?_ | refine q_blockR ?_ | refine aw_exit ?_ | refine q_exit ?_ | refine q_blockE ?_ | refine q_blockX de_ ?_ | refine fin_r rfl ?_ | (refine w_req rfl ?_ ?_; · exact rq_F5) | (refine w_lk rfl ?_; refine ⟨_, lk_F5, ?_⟩) | refine w_look (l' := _ :: _) rfl rfl ?_ | refine w_look (l' := []) rfl rfl ?_ | refine w_req rfl ?_ ?_ | refine w_pick rfl (fun b => ?_) | refine l_call rfl (c1) ?_ | refine l_call rfl (c2) ?_ | refine l_call rfl (c3) ?_ | refine l_call rfl (c4) ?_ | refine l_call rfl (c5) ?_ | refine aw_drw kr_ ?_ | refine d_cons ?_ | refine l_ok rfl ?_ | refine d_nil kr_ ?_ | refine d_y rfl ka ?_ | refine d_nT rfl ka ?_ | refine d_nF rfl ka ?_ | refine d_nU rfl ?_ | refine l_pT rfl ka rfl ?_ | refine l_pF rfl ka rfl ?_ | refine d_gT rfl (fun h => ?_) (fun h => ?_) | refine d_gF rfl (fun h => ?_) (fun h => ?_) | (refine l_req rfl ?_ ?_; · exact rq_F5) | (refine l_lk rfl ?_; refine ⟨_, lk_F5, ?_⟩) | refine l_look (l' := _ :: _) rfl rfl ?_ | refine l_look (l' := []) rfl rfl ?_ | refine l_req rfl ?_ ?_)
    rfl
  | true =>
    rw [hb] at c5
    have c6 := l13Rec l rfl d2 ((scanM s.a).length : Int) k2 hl
    have b1 := rdR_d l d2 ((scanM s.a).length : Int)
    have b2 : (rdR l d2 ((scanM s.a).length : Int)).k = 1 → 0 ≤ (rdR l d2 ((scanM s.a).length : Int)).n := by
      intro h
      unfold rdR at h ⊢
      simp only at h ⊢
      rw [if_pos h]
      exact getD3 (P := fun x => 0 ≤ x) (by decide) (by decide) (by decide) (by decide)
    generalize rdR l d2 ((scanM s.a).length : Int) = R at c6 b1 b2
    generalize scanM s.a = L at *
    refine ⟨L ++ [R], ⟨by simp; omega, fun x hx => ?_, fun x hx => ?_⟩, ?_⟩
    · rcases List.mem_append.1 hx with h | h
      · exact hn x h
      · rw [List.mem_singleton.1 h]; exact b2
    · rcases List.mem_append.1 hx with h | h
      · exact hd x h
      · rw [List.mem_singleton.1 h]; exact b1
    · have q1 : (L.length + 1) * 72 ≤ 140737488355328 ∧ L.length + 1 ≤ 140737488355328 := by omega
      generalize hLL : L ++ [R] = LL
      refine agood eok (fn := Try.f56) kr_ de_ rfl kr_ ok_F5 ok_F5 ?_
      repeat' (first | refine o_cons ?_ | refine w_ok rfl ?_ | refine w_call rfl (c1) ?_ | refine w_call rfl (c2) ?_ | refine w_call rfl (c3) ?_ | refine w_call rfl (c4) ?_ | refine w_call rfl (c5) ?_ | refine w_call rfl (c6) ?_ | refine o_nil ?_ | refine q_then ?_ | refine sq ?_ | refine aw_seq ?_ | refine aw_reg ?_ | refine w_pT rfl ka rfl ?_ | refine w_pF rfl ka rfl ?_ | refine o_y rfl ka ?_ | refine o_nT rfl ka ?_ | refine o_nF rfl ka ?_ | refine o_nU rfl ?_ | refine aw_cT rfl ka ?_ | refine aw_cF rfl ka ?_ | refine o_gT rfl (fun h => ?_) (fun h => ?_) | refine o_gF rfl (fun h => ?_) (fun h => ?_) | refine aw_cond rfl (fun h => ?_) (fun h => ?_) | refine aw_block ?_ | refine aw_skip ?_ | refine aw_ret ?_ | refine q_ret ?_ | refine q_blockN ?_ | refine q_blockR ?_ | refine aw_exit ?_ | refine q_exit ?_ | refine q_blockE ?_ | refine q_blockX de_ ?_ | refine fin_r rfl ?_ | (refine w_req rfl ?_ ?_; · exact rq_F5) | (refine w_lk rfl ?_; refine ⟨_, lk_F5, ?_⟩) | refine w_look (l' := _ :: _) rfl rfl ?_ | refine w_look (l' := []) rfl rfl ?_ | refine w_req rfl ?_ ?_ | refine w_pick rfl (fun b => ?_) | refine l_call rfl (c1) ?_ | refine l_call rfl (c2) ?_ | refine l_call rfl (c3) ?_ | refine l_call rfl (c4) ?_ | refine l_call rfl (c5) ?_ | refine l_call rfl (c6) ?_ | refine aw_drw kr_ ?_ | refine d_cons ?_ | refine l_ok rfl ?_ | refine d_nil kr_ ?_ | refine d_y rfl ka ?_ | refine d_nT rfl ka ?_ | refine d_nF rfl ka ?_ | refine d_nU rfl ?_ | refine l_pT rfl ka rfl ?_ | refine l_pF rfl ka rfl ?_ | refine d_gT rfl (fun h => ?_) (fun h => ?_) | refine d_gF rfl (fun h => ?_) (fun h => ?_) | (refine l_req rfl ?_ ?_; · exact rq_F5) | (refine l_lk rfl ?_; refine ⟨_, lk_F5, ?_⟩) | refine l_look (l' := _ :: _) rfl rfl ?_ | refine l_look (l' := []) rfl rfl ?_ | refine l_req rfl ?_ ?_)
      subst hLL
      rw [List.length_append]
      rfl
end Go.Proofs.Ytbkpmljdmlhmhaa
namespace Go.Proofs.Ytbkpmljdmlhmhaa
open Go Go.AM Ty
set_option maxRecDepth 100000
set_option maxHeartbeats 4000000
set_option linter.unusedVariables false
set_option linter.unusedSimpArgs false
attribute [local irreducible] aw aops aopsD wpo wpoL condW guardW thenQ blockQ finQ Le AGood
theorem rq_L12 {p : Prop} (h : p := by first | assumption | exact uT_plain _ | exact rT_plain _ | exact rq_) : p := h
theorem lk_L12 {p : Prop} (h : p := by first | exact bT_app _ _ | exact e1 | exact uT_el side_ | exact lk_) : p := h
theorem ok_L12 {p : Prop} (h : p := by first | (simp [Tr.okR, Tr.okRL, Tr.plainL, Tr.plain, cells1, Tr.cellB, PB.okRL, PB.okR, bT_plain, sT_plain, oT_plain, nT_plain, uT_plain, rT_plain]; done) | exact ok_) : p := h
theorem foldM_take : ∀ (rs : List Rc) {l u : List Upp} (n : Nat), foldM l rs = some u → ∃ v, foldM l (rs.take n) = some v
  | [], l, u, n, h => ⟨l, by rw [List.take_nil]; unfold foldM; rfl⟩
  | r :: rs, l, u, 0, h => ⟨l, by rw [List.take_zero]; unfold foldM; rfl⟩
  | r :: rs, l, u, n + 1, h => by
    unfold foldM at h
    split at h
    · cases h
    · rename_i l' he
      obtain ⟨v, hv⟩ := foldM_take rs n h
      exact ⟨v, by rw [List.take_succ_cons]; unfold foldM; rw [he]; exact hv⟩
theorem foldM_nil {u : List Upp} (h : foldM [] [] = some u) : u = [] := by
  unfold foldM at h
  injection h with h
  exact h.symm
attribute [local irreducible] foldM
theorem law_FnFolded (l : List UInt8) (h : bdL bdAny l) : AGood e.P 10 [.ro (.row 1 l.length (bT l))] (.bool true) [.keep] := by
  rcases Nat.lt_or_ge 1048576 l.length with hb | hb
  · have k0 : decide ((l.length : Int) > 1048576) = true := by simp; omega
    refine agood eok (fn := Try.f10) kr_ de_ rfl kr_ ok_L12 ok_L12 ?_
    repeat' (first | refine o_cons ?_ | refine w_ok rfl ?_ | refine w_call rfl (big l rfl) ?_ | refine o_nil ?_ | refine q_then ?_ | refine sq ?_ | refine aw_seq ?_ | refine aw_reg ?_ | refine w_pT rfl ka rfl ?_ | refine w_pF rfl ka rfl ?_ | refine o_y rfl ka ?_ | refine o_nT rfl ka ?_ | refine o_nF rfl ka ?_ | refine o_nU rfl ?_ | refine aw_cT rfl ka ?_ | refine aw_cF rfl ka ?_ | refine o_gT rfl (fun h => ?_) (fun h => ?_) | refine o_gF rfl (fun h => ?_) (fun h => ?_) | refine aw_cond rfl (fun h => ?_) (fun h => ?_) | refine aw_block ?_ | refine aw_skip ?_ | refine aw_ret ?_ | refine q_ret ?_ | refine q_blockN ?_ | refine q_blockR ?_ | refine aw_exit ?_ | refine q_exit ?_ | refine q_blockE ?_ | refine q_blockX de_ ?_ | refine fin_r rfl ?_ | (refine w_req rfl ?_ ?_; · exact rq_L12) | (refine w_lk rfl ?_; refine ⟨_, lk_L12, ?_⟩) | refine w_look (l' := _ :: _) rfl rfl ?_ | refine w_look (l' := []) rfl rfl ?_ | refine w_req rfl ?_ ?_ | refine w_pick rfl (fun b => ?_))
    rfl
  · have k0 : decide ((l.length : Int) > 1048576) = false := by simp; omega
    obtain ⟨L, ⟨hLl, hLn, hLd⟩, c1⟩ := drawFoldRecs l rfl (by omega)
    have hsm := sumD_24 _ hLd
    have c2 := foldI L rfl (by omega) (by omega)
    have c3 := foldS L rfl (by omega) (by omega)
    cases hF : foldM [] L with
    | none =>
      rw [hF] at c2 c3
      have c2 : AGood e.P 52 [.ro (.row 6 L.length (rT L))] (.tup [.row 4 0 [], .bool false]) [.keep] := c2
      have c3 : AGood e.P 50 [.ro (.row 6 L.length (rT L))] (.tup [.row 4 0 [], .bool false]) [.keep] := c3
      refine agood eok (fn := Try.f10) kr_ de_ rfl kr_ ok_L12 ok_L12 ?_
      repeat' (first | refine o_cons ?_ | refine w_ok rfl ?_ | refine w_call rfl (big l rfl) ?_ | refine w_call rfl (c1) ?_ | refine w_call rfl (c2) ?_ | refine w_call rfl (c3) ?_ | refine o_nil ?_ | refine q_then ?_ | refine sq ?_ | refine aw_seq ?_ | refine aw_reg ?_ | refine w_pT rfl ka rfl ?_ | refine w_pF rfl ka rfl ?_ | refine o_y rfl ka ?_ | refine o_nT rfl ka ?_ | refine o_nF rfl ka ?_ | refine o_nU rfl ?_ | refine aw_cT rfl ka ?_ | refine aw_cF rfl ka ?_ | refine o_gT rfl (fun h => ?_) (fun h => ?_) | refine o_gF rfl (fun h => ?_) (fun h => ?_) | refine aw_cond rfl (fun h => ?_) (fun h => ?_) | refine aw_block ?_ | refine aw_skip ?_ | refine aw_ret ?_ | refine q_ret ?_ | refine q_blockN ?_ | refine q_blockR ?_ | refine aw_exit ?_ | refine q_exit ?_ | refine q_blockE ?_ | refine q_blockX de_ ?_ | refine fin_r rfl ?_ | (refine w_req rfl ?_ ?_; · exact rq_L12) | (refine w_lk rfl ?_; refine ⟨_, lk_L12, ?_⟩) | refine w_look (l' := _ :: _) rfl rfl ?_ | refine w_look (l' := []) rfl rfl ?_ | refine w_req rfl ?_ ?_ | refine w_pick rfl (fun b => ?_) | refine l_call rfl (big l rfl) ?_ | refine l_call rfl (c1) ?_ | refine l_call rfl (c2) ?_ | refine l_call rfl (c3) ?_ | refine aw_drw kr_ ?_ | refine d_cons ?_ | refine l_ok rfl ?_ | refine d_nil kr_ ?_ | refine d_y rfl ka ?_ | refine d_nT rfl ka ?_ | refine d_nF rfl ka ?_ | refine d_nU rfl ?_ | refine l_pT rfl ka rfl ?_ | refine l_pF rfl ka rfl ?_ | refine d_gT rfl (fun h => ?_) (fun h => ?_) | refine d_gF rfl (fun h => ?_) (fun h => ?_) | (refine l_req rfl ?_ ?_; · exact rq_L12) | (refine l_lk rfl ?_; refine ⟨_, lk_L12, ?_⟩) | refine l_look (l' := _ :: _) rfl rfl ?_ | refine l_look (l' := []) rfl rfl ?_ | refine l_req rfl ?_ ?_)
      rfl
    | some u =>
      rw [hF] at c2 c3
      have c2 : AGood e.P 52 [.ro (.row 6 L.length (rT L))] (.tup [.row 4 u.length (uT u), .bool true]) [.keep] := c2
      have c3 : AGood e.P 50 [.ro (.row 6 L.length (rT L))] (.tup [.row 4 u.length (uT u), .bool true]) [.keep] := c3
      obtain ⟨hul, hud⟩ := foldM_ok _ (B := 0) hF (Nat.zero_le _) (fun x hx => by cases hx)
      have hsrt := foldM_srt _ hF List.Pairwise.nil
      have huw := foldM_w _ hF hLn (fun x hx => by cases hx)
      have hd : ∀ x ∈ u, x.d.length ≤ 100000 := fun x hx => by have := hud x hx; omega
      refine agood eok (fn := Try.f10) kr_ de_ rfl kr_ ok_L12 ok_L12 ?_
      repeat' (first | refine o_cons ?_ | refine w_ok rfl ?_ | refine w_call rfl (big l rfl) ?_ | refine w_call rfl (c1) ?_ | refine w_call rfl (c2) ?_ | refine w_call rfl (c3) ?_ | refine o_nil ?_ | refine q_then ?_ | refine sq ?_ | refine aw_seq ?_ | refine aw_reg ?_ | refine w_pT rfl ka rfl ?_ | refine w_pF rfl ka rfl ?_ | refine o_y rfl ka ?_ | refine o_nT rfl ka ?_ | refine o_nF rfl ka ?_ | refine o_nU rfl ?_ | refine aw_cT rfl ka ?_ | refine aw_cF rfl ka ?_ | refine o_gT rfl (fun h => ?_) (fun h => ?_) | refine o_gF rfl (fun h => ?_) (fun h => ?_) | refine aw_cond rfl (fun h => ?_) (fun h => ?_) | refine aw_block ?_ | refine aw_skip ?_ | refine aw_ret ?_ | refine q_ret ?_ | refine q_blockN ?_ | refine q_blockR ?_ | refine aw_exit ?_ | refine q_exit ?_ | refine q_blockE ?_ | refine q_blockX de_ ?_ | refine fin_r rfl ?_ | (refine w_req rfl ?_ ?_; · exact rq_L12) | (refine w_lk rfl ?_; refine ⟨_, lk_L12, ?_⟩) | refine w_look (l' := _ :: _) rfl rfl ?_ | refine w_look (l' := []) rfl rfl ?_ | refine w_req rfl ?_ ?_ | refine w_pick rfl (fun b => ?_) | refine l_call rfl (big l rfl) ?_ | refine l_call rfl (c1) ?_ | refine l_call rfl (c2) ?_ | refine l_call rfl (c3) ?_ | refine aw_drw kr_ ?_ | refine d_cons ?_ | refine l_ok rfl ?_ | refine d_nil kr_ ?_ | refine d_y rfl ka ?_ | refine d_nT rfl ka ?_ | refine d_nF rfl ka ?_ | refine d_nU rfl ?_ | refine l_pT rfl ka rfl ?_ | refine l_pF rfl ka rfl ?_ | refine d_gT rfl (fun h => ?_) (fun h => ?_) | refine d_gF rfl (fun h => ?_) (fun h => ?_) | (refine l_req rfl ?_ ?_; · exact rq_L12) | (refine l_lk rfl ?_; refine ⟨_, lk_L12, ?_⟩) | refine l_look (l' := _ :: _) rfl rfl ?_ | refine l_look (l' := []) rfl rfl ?_ | refine l_req rfl ?_ ?_)
      refine loop1 (fun i : Nat => ⟨tbl [(3, .own 15000 0), (4, .own 18000 0), (8, .int .i64 i)], mbl [(15000, .row 0 0 6 L.length (rT L)), (18000, .row 0 0 4 u.length (uT u))], [.ro (some 0) 1 l.length (bT l)]⟩) (fun i => i ≤ u.length) (fun i => u.length - i) 0 (Nat.zero_le _) ?_ ?_
      · (refine le_of [(15000, 15000), (18000, 18000)] ?_; repeat' (first | exact trivial | refine an ?_ ?_ | with_reducible rfl | exact bt rfl | exact Or.inl rfl | exact Or.inr rfl | exact Eq.refl _))
      intro i hi
      rcases Nat.lt_or_ge i u.length with hil | hil
      · have hc : decide ((i : Int) < (u.length : Int)) = true := by simp; omega
        have g1 : 0 ≤ (i : Int) ∧ (i : Int) < (u.length : Int) := by omega
        have hw := getD_all huw hil (z := zeroU)
        have k1 : decide (((u.getD (i : Int).toNat zeroU).d.length : Int) > (u.getD (i : Int).toNat zeroU).w) = false := by rw [Int.toNat_natCast]; exact decide_eq_false (by have := hw.1; omega)
        have k3 : (u.getD (i : Int).toNat zeroU).f = true → (((u.getD (i : Int).toNat zeroU).d.length : Int) != (u.getD (i : Int).toNat zeroU).w) = false := fun h => by
          rw [Int.toNat_natCast] at h ⊢
          simpa using hw.2 h
        rcases Nat.eq_zero_or_pos i with h0 | h0
        · subst h0
          cases hf : (u.getD ((0 : Nat) : Int).toNat zeroU).f with
          | true =>
            have k4 := k3 hf
            repeat' (first | refine o_cons ?_ | refine w_ok rfl ?_ | refine o_nil ?_ | refine q_then ?_ | refine sq ?_ | refine aw_seq ?_ | refine aw_reg ?_ | refine w_pT rfl ka rfl ?_ | refine w_pF rfl ka rfl ?_ | refine o_y rfl ka ?_ | refine o_nT rfl ka ?_ | refine o_nF rfl ka ?_ | refine o_nU rfl ?_ | refine aw_cT rfl ka ?_ | refine aw_cF rfl ka ?_ | refine o_gT rfl (fun h => ?_) (fun h => ?_) | refine o_gF rfl (fun h => ?_) (fun h => ?_) | refine aw_cond rfl (fun h => ?_) (fun h => ?_) | refine aw_block ?_ | refine aw_skip ?_ | refine aw_ret ?_ | refine q_ret ?_ | refine q_blockN ?_ | refine q_blockR ?_ | refine aw_exit ?_ | refine q_exit ?_ | refine q_blockE ?_ | refine q_blockX de_ ?_ | refine fin_r rfl ?_ | (refine w_req rfl ?_ ?_; · exact rq_L12) | (refine w_lk rfl ?_; refine ⟨_, lk_L12, ?_⟩) | refine w_look (l' := _ :: _) rfl rfl ?_ | refine w_look (l' := []) rfl rfl ?_ | refine w_req rfl ?_ ?_ | refine w_pick rfl (fun b => ?_) | refine aw_drw kr_ ?_ | refine d_cons ?_ | refine l_ok rfl ?_ | refine d_nil kr_ ?_ | refine d_y rfl ka ?_ | refine d_nT rfl ka ?_ | refine d_nF rfl ka ?_ | refine d_nU rfl ?_ | refine l_pT rfl ka rfl ?_ | refine l_pF rfl ka rfl ?_ | refine d_gT rfl (fun h => ?_) (fun h => ?_) | refine d_gF rfl (fun h => ?_) (fun h => ?_) | (refine l_req rfl ?_ ?_; · exact rq_L12) | (refine l_lk rfl ?_; refine ⟨_, lk_L12, ?_⟩) | refine l_look (l' := _ :: _) rfl rfl ?_ | refine l_look (l' := []) rfl rfl ?_ | refine l_req rfl ?_ ?_)
            refine ⟨0 + 1, ⟨by omega, by omega⟩, ?_⟩
            (refine le_of [(15000, 15000), (18000, 18000)] ?_; repeat' (first | exact trivial | refine an ?_ ?_ | with_reducible rfl | exact bt rfl | exact Or.inl rfl | exact Or.inr rfl | exact Eq.refl _))
            all_goals (first | omega | (simp; done) | (rw [wrap64] <;> omega) | (simp; omega))
          | false =>
            repeat' (first | refine o_cons ?_ | refine w_ok rfl ?_ | refine o_nil ?_ | refine q_then ?_ | refine sq ?_ | refine aw_seq ?_ | refine aw_reg ?_ | refine w_pT rfl ka rfl ?_ | refine w_pF rfl ka rfl ?_ | refine o_y rfl ka ?_ | refine o_nT rfl ka ?_ | refine o_nF rfl ka ?_ | refine o_nU rfl ?_ | refine aw_cT rfl ka ?_ | refine aw_cF rfl ka ?_ | refine o_gT rfl (fun h => ?_) (fun h => ?_) | refine o_gF rfl (fun h => ?_) (fun h => ?_) | refine aw_cond rfl (fun h => ?_) (fun h => ?_) | refine aw_block ?_ | refine aw_skip ?_ | refine aw_ret ?_ | refine q_ret ?_ | refine q_blockN ?_ | refine q_blockR ?_ | refine aw_exit ?_ | refine q_exit ?_ | refine q_blockE ?_ | refine q_blockX de_ ?_ | refine fin_r rfl ?_ | (refine w_req rfl ?_ ?_; · exact rq_L12) | (refine w_lk rfl ?_; refine ⟨_, lk_L12, ?_⟩) | refine w_look (l' := _ :: _) rfl rfl ?_ | refine w_look (l' := []) rfl rfl ?_ | refine w_req rfl ?_ ?_ | refine w_pick rfl (fun b => ?_) | refine aw_drw kr_ ?_ | refine d_cons ?_ | refine l_ok rfl ?_ | refine d_nil kr_ ?_ | refine d_y rfl ka ?_ | refine d_nT rfl ka ?_ | refine d_nF rfl ka ?_ | refine d_nU rfl ?_ | refine l_pT rfl ka rfl ?_ | refine l_pF rfl ka rfl ?_ | refine d_gT rfl (fun h => ?_) (fun h => ?_) | refine d_gF rfl (fun h => ?_) (fun h => ?_) | (refine l_req rfl ?_ ?_; · exact rq_L12) | (refine l_lk rfl ?_; refine ⟨_, lk_L12, ?_⟩) | refine l_look (l' := _ :: _) rfl rfl ?_ | refine l_look (l' := []) rfl rfl ?_ | refine l_req rfl ?_ ?_)
            refine ⟨0 + 1, ⟨by omega, by omega⟩, ?_⟩
            (refine le_of [(15000, 15000), (18000, 18000)] ?_; repeat' (first | exact trivial | refine an ?_ ?_ | with_reducible rfl | exact bt rfl | exact Or.inl rfl | exact Or.inr rfl | exact Eq.refl _))
            all_goals (first | omega | (simp; done) | (rw [wrap64] <;> omega) | (simp; omega))
        · have k5 : decide ((i : Int) > 0) = true := by simp; omega
          have w1 : IntKind.i64.wrap ((i : Int) - 1) = ((i - 1 : Nat) : Int) := by rw [wrap64 (by omega) (by omega)]; omega
          have g2 : 0 ≤ IntKind.i64.wrap ((i : Int) - 1) ∧ IntKind.i64.wrap ((i : Int) - 1) < (u.length : Int) := by rw [w1]; omega
          have hlt := srt_lt hsrt (i := i - 1) (j := i) (by omega) hil
          have k6 : (!(Op.bytesLess (u.getD (IntKind.i64.wrap ((i : Int) - 1)).toNat zeroU).s.toList (u.getD (i : Int).toNat zeroU).s.toList)) = false := by
            rw [w1, Int.toNat_natCast, Int.toNat_natCast, hlt]; rfl
          cases hf : (u.getD (i : Int).toNat zeroU).f with
          | true =>
            have k4 := k3 hf
            repeat' (first | refine o_cons ?_ | refine w_ok rfl ?_ | refine o_nil ?_ | refine q_then ?_ | refine sq ?_ | refine aw_seq ?_ | refine aw_reg ?_ | refine w_pT rfl ka rfl ?_ | refine w_pF rfl ka rfl ?_ | refine o_y rfl ka ?_ | refine o_nT rfl ka ?_ | refine o_nF rfl ka ?_ | refine o_nU rfl ?_ | refine aw_cT rfl ka ?_ | refine aw_cF rfl ka ?_ | refine o_gT rfl (fun h => ?_) (fun h => ?_) | refine o_gF rfl (fun h => ?_) (fun h => ?_) | refine aw_cond rfl (fun h => ?_) (fun h => ?_) | refine aw_block ?_ | refine aw_skip ?_ | refine aw_ret ?_ | refine q_ret ?_ | refine q_blockN ?_ | refine q_blockR ?_ | refine aw_exit ?_ | refine q_exit ?_ | refine q_blockE ?_ | refine q_blockX de_ ?_ | refine fin_r rfl ?_ | (refine w_req rfl ?_ ?_; · exact rq_L12) | (refine w_lk rfl ?_; refine ⟨_, lk_L12, ?_⟩) | refine w_look (l' := _ :: _) rfl rfl ?_ | refine w_look (l' := []) rfl rfl ?_ | refine w_req rfl ?_ ?_ | refine w_pick rfl (fun b => ?_) | refine aw_drw kr_ ?_ | refine d_cons ?_ | refine l_ok rfl ?_ | refine d_nil kr_ ?_ | refine d_y rfl ka ?_ | refine d_nT rfl ka ?_ | refine d_nF rfl ka ?_ | refine d_nU rfl ?_ | refine l_pT rfl ka rfl ?_ | refine l_pF rfl ka rfl ?_ | refine d_gT rfl (fun h => ?_) (fun h => ?_) | refine d_gF rfl (fun h => ?_) (fun h => ?_) | (refine l_req rfl ?_ ?_; · exact rq_L12) | (refine l_lk rfl ?_; refine ⟨_, lk_L12, ?_⟩) | refine l_look (l' := _ :: _) rfl rfl ?_ | refine l_look (l' := []) rfl rfl ?_ | refine l_req rfl ?_ ?_)
            refine ⟨i + 1, ⟨by omega, by omega⟩, ?_⟩
            (refine le_of [(15000, 15000), (18000, 18000)] ?_; repeat' (first | exact trivial | refine an ?_ ?_ | with_reducible rfl | exact bt rfl | exact Or.inl rfl | exact Or.inr rfl | exact Eq.refl _))
            all_goals (first | omega | (simp; done) | (rw [wrap64] <;> omega) | (simp; omega))
          | false =>
            repeat' (first | refine o_cons ?_ | refine w_ok rfl ?_ | refine o_nil ?_ | refine q_then ?_ | refine sq ?_ | refine aw_seq ?_ | refine aw_reg ?_ | refine w_pT rfl ka rfl ?_ | refine w_pF rfl ka rfl ?_ | refine o_y rfl ka ?_ | refine o_nT rfl ka ?_ | refine o_nF rfl ka ?_ | refine o_nU rfl ?_ | refine aw_cT rfl ka ?_ | refine aw_cF rfl ka ?_ | refine o_gT rfl (fun h => ?_) (fun h => ?_) | refine o_gF rfl (fun h => ?_) (fun h => ?_) | refine aw_cond rfl (fun h => ?_) (fun h => ?_) | refine aw_block ?_ | refine aw_skip ?_ | refine aw_ret ?_ | refine q_ret ?_ | refine q_blockN ?_ | refine q_blockR ?_ | refine aw_exit ?_ | refine q_exit ?_ | refine q_blockE ?_ | refine q_blockX de_ ?_ | refine fin_r rfl ?_ | (refine w_req rfl ?_ ?_; · exact rq_L12) | (refine w_lk rfl ?_; refine ⟨_, lk_L12, ?_⟩) | refine w_look (l' := _ :: _) rfl rfl ?_ | refine w_look (l' := []) rfl rfl ?_ | refine w_req rfl ?_ ?_ | refine w_pick rfl (fun b => ?_) | refine aw_drw kr_ ?_ | refine d_cons ?_ | refine l_ok rfl ?_ | refine d_nil kr_ ?_ | refine d_y rfl ka ?_ | refine d_nT rfl ka ?_ | refine d_nF rfl ka ?_ | refine d_nU rfl ?_ | refine l_pT rfl ka rfl ?_ | refine l_pF rfl ka rfl ?_ | refine d_gT rfl (fun h => ?_) (fun h => ?_) | refine d_gF rfl (fun h => ?_) (fun h => ?_) | (refine l_req rfl ?_ ?_; · exact rq_L12) | (refine l_lk rfl ?_; refine ⟨_, lk_L12, ?_⟩) | refine l_look (l' := _ :: _) rfl rfl ?_ | refine l_look (l' := []) rfl rfl ?_ | refine l_req rfl ?_ ?_)
            refine ⟨i + 1, ⟨by omega, by omega⟩, ?_⟩
            (refine le_of [(15000, 15000), (18000, 18000)] ?_; repeat' (first | exact trivial | refine an ?_ ?_ | with_reducible rfl | exact bt rfl | exact Or.inl rfl | exact Or.inr rfl | exact Eq.refl _))
            all_goals (first | omega | (simp; done) | (rw [wrap64] <;> omega) | (simp; omega))
      · have hc : decide ((i : Int) < (u.length : Int)) = false := decide_eq_false (by omega)
        by_cases h0 : L.length = 0
        · have k1 : ((L.length : Int) == 0) = true := by rw [h0]; rfl
          have hL : L = [] := List.length_eq_zero_iff.1 h0
          have hu0 : u.length = 0 := by rw [hL] at hF; rw [foldM_nil hF]; rfl
          have k2 : ((u.length : Int) == 0) = true := by rw [hu0]; rfl
          repeat' (first | refine o_cons ?_ | refine w_ok rfl ?_ | refine o_nil ?_ | refine q_then ?_ | refine sq ?_ | refine aw_seq ?_ | refine aw_reg ?_ | refine w_pT rfl ka rfl ?_ | refine w_pF rfl ka rfl ?_ | refine o_y rfl ka ?_ | refine o_nT rfl ka ?_ | refine o_nF rfl ka ?_ | refine o_nU rfl ?_ | refine aw_cT rfl ka ?_ | refine aw_cF rfl ka ?_ | refine o_gT rfl (fun h => ?_) (fun h => ?_) | refine o_gF rfl (fun h => ?_) (fun h => ?_) | refine aw_cond rfl (fun h => ?_) (fun h => ?_) | refine aw_block ?_ | refine aw_skip ?_ | refine aw_ret ?_ | refine q_ret ?_ | refine q_blockN ?_ | refine q_blockR ?_ | refine aw_exit ?_ | refine q_exit ?_ | refine q_blockE ?_ | refine q_blockX de_ ?_ | refine fin_r rfl ?_ | (refine w_req rfl ?_ ?_; · exact rq_L12) | (refine w_lk rfl ?_; refine ⟨_, lk_L12, ?_⟩) | refine w_look (l' := _ :: _) rfl rfl ?_ | refine w_look (l' := []) rfl rfl ?_ | refine w_req rfl ?_ ?_ | refine w_pick rfl (fun b => ?_) | refine aw_drw kr_ ?_ | refine d_cons ?_ | refine l_ok rfl ?_ | refine d_nil kr_ ?_ | refine d_y rfl ka ?_ | refine d_nT rfl ka ?_ | refine d_nF rfl ka ?_ | refine d_nU rfl ?_ | refine l_pT rfl ka rfl ?_ | refine l_pF rfl ka rfl ?_ | refine d_gT rfl (fun h => ?_) (fun h => ?_) | refine d_gF rfl (fun h => ?_) (fun h => ?_) | (refine l_req rfl ?_ ?_; · exact rq_L12) | (refine l_lk rfl ?_; refine ⟨_, lk_L12, ?_⟩) | refine l_look (l' := _ :: _) rfl rfl ?_ | refine l_look (l' := []) rfl rfl ?_ | refine l_req rfl ?_ ?_)
          rw [k2]
        · have k1 : ((L.length : Int) == 0) = false := by rw [beq_eq_false_iff_ne]; omega
          have k2 : decide ((u.length : Int) ≤ 10) = true := decide_eq_true (by omega)
          have w1 : IntKind.i64.wrap ((L.length : Int) - 1) = ((L.length - 1 : Nat) : Int) := by rw [wrap64 (by omega) (by omega)]; omega
          obtain ⟨v, hv⟩ := foldM_take L (L.length - 1) hF
          have hlt : (L.take (L.length - 1)).length = L.length - 1 := by rw [List.length_take]; omega
          have c4 := foldI (L.take (L.length - 1)) (n := (IntKind.i64.wrap ((L.length : Int) - 1)).toNat - Int.toNat 0) (by rw [w1, hlt]; simp) (by omega) (by
            have := sumD_24 (L.take (L.length - 1)) (fun r hr => hLd r (List.mem_of_mem_take hr))
            omega)
          rw [hv] at c4
          have c4 : AGood e.P 52 [.ro (.row 6 ((IntKind.i64.wrap ((L.length : Int) - 1)).toNat - Int.toNat 0) (rT (L.take (L.length - 1))))] (.tup [.row 4 v.length (uT v), .bool true]) [.keep] := c4
          have g3 : 0 ≤ (0 : Int) ∧ (0 : Int) ≤ IntKind.i64.wrap ((L.length : Int) - 1) ∧ IntKind.i64.wrap ((L.length : Int) - 1) ≤ (L.length : Int) := by rw [w1]; omega
          have e1 : ((rT L).drop (Int.toNat 0 * 6)).take (((IntKind.i64.wrap ((L.length : Int) - 1)).toNat - Int.toNat 0) * 6) = rT (L.take (L.length - 1)) := by
            rw [w1]
            simp only [Int.toNat_zero, Nat.zero_mul, List.drop_zero, Nat.sub_zero, Int.toNat_natCast]
            unfold rT
            rw [fl_take rc_sz]
          repeat' (first | refine o_cons ?_ | refine w_ok rfl ?_ | refine w_call rfl (c4) ?_ | refine o_nil ?_ | refine q_then ?_ | refine sq ?_ | refine aw_seq ?_ | refine aw_reg ?_ | refine w_pT rfl ka rfl ?_ | refine w_pF rfl ka rfl ?_ | refine o_y rfl ka ?_ | refine o_nT rfl ka ?_ | refine o_nF rfl ka ?_ | refine o_nU rfl ?_ | refine aw_cT rfl ka ?_ | refine aw_cF rfl ka ?_ | refine o_gT rfl (fun h => ?_) (fun h => ?_) | refine o_gF rfl (fun h => ?_) (fun h => ?_) | refine aw_cond rfl (fun h => ?_) (fun h => ?_) | refine aw_block ?_ | refine aw_skip ?_ | refine aw_ret ?_ | refine q_ret ?_ | refine q_blockN ?_ | refine q_blockR ?_ | refine aw_exit ?_ | refine q_exit ?_ | refine q_blockE ?_ | refine q_blockX de_ ?_ | refine fin_r rfl ?_ | (refine w_req rfl ?_ ?_; · exact rq_L12) | (refine w_lk rfl ?_; refine ⟨_, lk_L12, ?_⟩) | refine w_look (l' := _ :: _) rfl rfl ?_ | refine w_look (l' := []) rfl rfl ?_ | refine w_req rfl ?_ ?_ | refine w_pick rfl (fun b => ?_) | refine l_call rfl (c4) ?_ | refine aw_drw kr_ ?_ | refine d_cons ?_ | refine l_ok rfl ?_ | refine d_nil kr_ ?_ | refine d_y rfl ka ?_ | refine d_nT rfl ka ?_ | refine d_nF rfl ka ?_ | refine d_nU rfl ?_ | refine l_pT rfl ka rfl ?_ | refine l_pF rfl ka rfl ?_ | refine d_gT rfl (fun h => ?_) (fun h => ?_) | refine d_gF rfl (fun h => ?_) (fun h => ?_) | (refine l_req rfl ?_ ?_; · exact rq_L12) | (refine l_lk rfl ?_; refine ⟨_, lk_L12, ?_⟩) | refine l_look (l' := _ :: _) rfl rfl ?_ | refine l_look (l' := []) rfl rfl ?_ | refine l_req rfl ?_ ?_)
          rw [k2]
end Go.Proofs.Ytbkpmljdmlhmhaa
