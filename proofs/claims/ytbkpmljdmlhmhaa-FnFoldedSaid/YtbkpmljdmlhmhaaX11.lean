import Derived.Test.YtbkpmljdmlhmhaaX10
namespace Go.Proofs.Ytbkpmljdmlhmhaa
open Go Go.AM Ty
set_option maxRecDepth 100000
set_option maxHeartbeats 4000000
set_option linter.unusedVariables false
set_option linter.unusedSimpArgs false
attribute [local irreducible] aw aops aopsD wpo wpoL condW guardW thenQ blockQ finQ Le AGood
theorem wk {a B : Int} (h : 0 ≤ a ∧ a ≤ B) (hB : B ≤ 4294967296) : 0 ≤ a ∧ a ≤ 4294967296 := by omega
/-- what stands in a sector's text, whatever it be -/
def parse (l : List UInt8) : Option Rc :=
  if getOk l.length 0 3 && getOk l.length 3 2 && getOk l.length 5 1 && getOk l.length 6 1 && decide (7 + getV l 6 1 ≤ l.length) && getOk l.length (7 + getV l 6 1) 4 && getOk l.length (11 + getV l 6 1) 1 && decide (12 + getV l 6 1 + getV l (11 + getV l 6 1) 1 ≤ l.length) then
    some ⟨getV l 0 3, getV l 3 2, getV l 5 1, ⟨((l.drop 7).take (getV l 6 1).toNat).toArray⟩, getV l (7 + getV l 6 1) 4, (l.drop (12 + getV l 6 1).toNat).take (getV l (11 + getV l 6 1) 1).toNat⟩
  else none
def getRecM (s : ByteArray) : Option Rc := (parse s.data.toList).bind fun r => if recOkM r && (putS r).toList == s.toList then some r else none
abbrev Rc.tr (r : Rc) : Tr := .agg [.int .i64 r.a, .int .i64 r.b, .int .i64 r.k, .str r.s, .int .i64 r.n, .row 1 r.d.length (bT r.d)]
def recTr (o : Option Rc) : Tr := .tup [(o.getD zeroR).tr, .bool o.isSome]
theorem recTr_okR (o : Option Rc) : (recTr o).okR := by simp [recTr, Tr.okR, Tr.okRL, cells1, Tr.cellB, bT_plain]
structure Rd8 (l : List UInt8) (v1 v2 v3 v4 v5 v6 a1 a2 a3 a4 a5 a6 a7 : Int) (b1 b2 b3 b4 b5 b6 b7 b8 : Bool) (t1 t2 : List UInt8) : Prop where
  e1 : v1 = nV l 0 false 3 ∧ a1 = nA l 0 false 3 ∧ b1 = numBad l 0 false 3
  e2 : v2 = nV l a1 b1 2 ∧ a2 = nA l a1 b1 2 ∧ b2 = numBad l a1 b1 2
  e3 : v3 = nV l a2 b2 1 ∧ a3 = nA l a2 b2 1 ∧ b3 = numBad l a2 b2 1
  e4 : v4 = nV l a3 b3 1 ∧ a4 = nA l a3 b3 1 ∧ b4 = numBad l a3 b3 1
  e5 : t1 = takeV l a4 b4 v4 ∧ a5 = tA l a4 b4 v4 ∧ b5 = takeBad l a4 b4 v4
  e6 : v5 = nV l a5 b5 4 ∧ a6 = nA l a5 b5 4 ∧ b6 = numBad l a5 b5 4
  e7 : v6 = nV l a6 b6 1 ∧ a7 = nA l a6 b6 1 ∧ b7 = numBad l a6 b6 1
  e8 : t2 = takeV l a7 b7 v6 ∧ b8 = takeBad l a7 b7 v6
theorem nB {l : List UInt8} {at_ : Int} {b : Bool} {k : Int} (h : numBad l at_ b k = false) : b = false ∧ getOk l.length at_ k = true := by
  unfold numBad at h; simpa using h
theorem tB {l : List UInt8} {at_ : Int} {b : Bool} {k : Int} (h : takeBad l at_ b k = false) : b = false ∧ at_ + k ≤ l.length := by
  unfold takeBad at h; simp at h; exact ⟨h.1, by omega⟩
theorem nVf {l : List UInt8} {at_ : Int} {k : Int} (h : numBad l at_ false k = false) : nV l at_ false k = getV l at_ k ∧ nA l at_ false k = at_ + k := by
  unfold nV nA; rw [h]; exact ⟨rfl, rfl⟩
theorem tVf {l : List UInt8} {at_ : Int} {k : Int} (h : takeBad l at_ false k = false) : takeV l at_ false k = (l.drop at_.toNat).take k.toNat ∧ tA l at_ false k = at_ + k := by
  unfold takeV tA; rw [h]; exact ⟨rfl, rfl⟩
theorem Rd8.good {l : List UInt8} {v1 v2 v3 v4 v5 v6 a1 a2 a3 a4 a5 a6 a7 : Int} {b1 b2 b3 b4 b5 b6 b7 b8 : Bool} {t1 t2 : List UInt8} (R : Rd8 l v1 v2 v3 v4 v5 v6 a1 a2 a3 a4 a5 a6 a7 b1 b2 b3 b4 b5 b6 b7 b8 t1 t2) (h : b8 = false) : parse l = some ⟨v1, v2, v3, ⟨t1.toArray⟩, v5, t2⟩ := by
  obtain ⟨⟨e1, f1, g1⟩, ⟨e2, f2, g2⟩, ⟨e3, f3, g3⟩, ⟨e4, f4, g4⟩, ⟨e5, f5, g5⟩, ⟨e6, f6, g6⟩, ⟨e7, f7, g7⟩, ⟨e8, g8⟩⟩ := R
  subst h
  obtain ⟨rfl, h8⟩ := tB g8.symm
  obtain ⟨rfl, h7⟩ := nB g7.symm
  obtain ⟨rfl, h6⟩ := nB g6.symm
  obtain ⟨rfl, h5⟩ := tB g5.symm
  obtain ⟨rfl, h4⟩ := nB g4.symm
  obtain ⟨rfl, h3⟩ := nB g3.symm
  obtain ⟨rfl, h2⟩ := nB g2.symm
  obtain ⟨-, h1⟩ := nB g1.symm
  obtain ⟨p1, q1⟩ := nVf g1.symm
  obtain rfl : a1 = 3 := by rw [f1, q1]; rfl
  obtain ⟨p2, q2⟩ := nVf g2.symm
  obtain rfl : a2 = 5 := by rw [f2, q2]; rfl
  obtain ⟨p3, q3⟩ := nVf g3.symm
  obtain rfl : a3 = 6 := by rw [f3, q3]; rfl
  obtain ⟨p4, q4⟩ := nVf g4.symm
  obtain rfl : a4 = 7 := by rw [f4, q4]; rfl
  obtain rfl : v4 = getV l 6 1 := e4.trans p4
  obtain ⟨p5, q5⟩ := tVf g5.symm
  obtain rfl : a5 = 7 + getV l 6 1 := f5.trans q5
  obtain ⟨p6, q6⟩ := nVf g6.symm
  obtain rfl : a6 = 11 + getV l 6 1 := by rw [f6, q6]; omega
  obtain ⟨p7, q7⟩ := nVf g7.symm
  obtain rfl : a7 = 12 + getV l 6 1 := by rw [f7, q7]; omega
  obtain rfl : v6 = getV l (11 + getV l 6 1) 1 := e7.trans p7
  obtain ⟨p8, q8⟩ := tVf g8.symm
  unfold parse
  rw [h1, h2, h3, h4, h6, h7, decide_eq_true h5, decide_eq_true h8, e1, e2, e3, e5, e6, e8, p1, p2, p3, p5, p6, p8]
  rfl
theorem Rd8.bad {l : List UInt8} {v1 v2 v3 v4 v5 v6 a1 a2 a3 a4 a5 a6 a7 : Int} {b1 b2 b3 b4 b5 b6 b7 b8 : Bool} {t1 t2 : List UInt8} (R : Rd8 l v1 v2 v3 v4 v5 v6 a1 a2 a3 a4 a5 a6 a7 b1 b2 b3 b4 b5 b6 b7 b8 t1 t2) (h : b8 = true) : parse l = none := by
  unfold parse
  split
  · rename_i hc
    exfalso
    simp only [Bool.and_eq_true, decide_eq_true_eq] at hc
    obtain ⟨⟨⟨⟨⟨⟨⟨h1, h2⟩, h3⟩, h4⟩, h5⟩, h6⟩, h7⟩, h8⟩ := hc
    obtain ⟨⟨e1, f1, g1⟩, ⟨e2, f2, g2⟩, ⟨e3, f3, g3⟩, ⟨e4, f4, g4⟩, ⟨e5, f5, g5⟩, ⟨e6, f6, g6⟩, ⟨e7, f7, g7⟩, ⟨e8, g8⟩⟩ := R
    have nb : ∀ {at_ k : Int}, getOk l.length at_ k = true → numBad l at_ false k = false := fun h => by unfold numBad; rw [h]; rfl
    have tb : ∀ {at_ k : Int}, at_ + k ≤ l.length → takeBad l at_ false k = false := fun h => by unfold takeBad; simp; omega
    have z1 := nb h1
    obtain ⟨p1, q1⟩ := nVf z1
    obtain rfl : a1 = 3 := by rw [f1, q1]; rfl
    obtain rfl : b1 = false := g1.trans z1
    have z2 := nb h2
    obtain ⟨p2, q2⟩ := nVf z2
    obtain rfl : a2 = 5 := by rw [f2, q2]; rfl
    obtain rfl : b2 = false := g2.trans z2
    have z3 := nb h3
    obtain ⟨p3, q3⟩ := nVf z3
    obtain rfl : a3 = 6 := by rw [f3, q3]; rfl
    obtain rfl : b3 = false := g3.trans z3
    have z4 := nb h4
    obtain ⟨p4, q4⟩ := nVf z4
    obtain rfl : a4 = 7 := by rw [f4, q4]; rfl
    obtain rfl : b4 = false := g4.trans z4
    obtain rfl : v4 = getV l 6 1 := e4.trans p4
    have z5 := tb h5
    obtain ⟨p5, q5⟩ := tVf z5
    obtain rfl : a5 = 7 + getV l 6 1 := f5.trans q5
    obtain rfl : b5 = false := g5.trans z5
    have z6 := nb h6
    obtain ⟨p6, q6⟩ := nVf z6
    obtain rfl : a6 = 11 + getV l 6 1 := by rw [f6, q6]; omega
    obtain rfl : b6 = false := g6.trans z6
    have z7 := nb h7
    obtain ⟨p7, q7⟩ := nVf z7
    obtain rfl : a7 = 12 + getV l 6 1 := by rw [f7, q7]; omega
    obtain rfl : b7 = false := g7.trans z7
    obtain rfl : v6 = getV l (11 + getV l 6 1) 1 := e7.trans p7
    rw [tb h8] at g8
    rw [g8] at h; cases h
  · rfl
attribute [local irreducible] nV nA tA takeV takeBad numBad recOkM putS
theorem nV1' (l : List UInt8) (at_ : Int) (bad : Bool) : 0 ≤ nV l at_ bad 1 ∧ nV l at_ bad 1 ≤ 4294967296 := wk (nV1 l at_ bad) (by decide)
theorem takeV_len (l : List UInt8) (at_ : Int) (bad : Bool) (n : Int) : (takeV l at_ bad n).length ≤ l.length := by
  unfold takeV
  split
  · exact Nat.zero_le _
  · rw [List.length_take, List.length_drop]; omega
theorem str_size (l : List UInt8) : (⟨((bT l).map AM.byteTr).toArray⟩ : ByteArray).size = l.length := by
  rw [bT_bytes]; rfl
theorem getRec (s : ByteArray) (hs : s.size ≤ 1048576) : AGood e.P 20 [.ro (.str s)] (recTr (getRecM s)) [.keep] := by
  have hl : s.data.toList.length ≤ 4294967296 := by rw [← sz_len]; omega
  have hl2 : s.data.toList.length ≤ 1048576 := by rw [← sz_len]; exact hs
  have hc : s.size = s.data.toList.length := sz_len s
  have z0 : 0 ≤ (0 : Int) ∧ (0 : Int) ≤ 0 := ⟨Int.le_refl 0, Int.le_refl 0⟩
  obtain ⟨v1, a1, b1, w1⟩ : ∃ v a b, v = nV s.data.toList 0 false 3 ∧ a = nA s.data.toList 0 false 3 ∧ b = numBad s.data.toList 0 false 3 := ⟨_, _, _, rfl, rfl, rfl⟩
  have x1 : 0 ≤ a1 ∧ a1 ≤ 0 + 3 := by rw [w1.2.1]; exact nA_bd z0 (by decide)
  have c1 := number' s.data.toList hc 0 3 false hl (by decide) (wk z0 (by decide))
  rw [← w1.1, ← w1.2.1, ← w1.2.2] at c1
  obtain ⟨v2, a2, b2, w2⟩ : ∃ v a b, v = nV s.data.toList a1 b1 2 ∧ a = nA s.data.toList a1 b1 2 ∧ b = numBad s.data.toList a1 b1 2 := ⟨_, _, _, rfl, rfl, rfl⟩
  have x2 : 0 ≤ a2 ∧ a2 ≤ 0 + 3 + 2 := by rw [w2.2.1]; exact nA_bd x1 (by decide)
  have c2 := number' s.data.toList hc a1 2 b1 hl (by decide) (wk x1 (by decide))
  rw [← w2.1, ← w2.2.1, ← w2.2.2] at c2
  obtain ⟨v3, a3, b3, w3⟩ : ∃ v a b, v = nV s.data.toList a2 b2 1 ∧ a = nA s.data.toList a2 b2 1 ∧ b = numBad s.data.toList a2 b2 1 := ⟨_, _, _, rfl, rfl, rfl⟩
  have x3 : 0 ≤ a3 ∧ a3 ≤ 0 + 3 + 2 + 1 := by rw [w3.2.1]; exact nA_bd x2 (by decide)
  have c3 := number' s.data.toList hc a2 1 b2 hl (by decide) (wk x2 (by decide))
  rw [← w3.1, ← w3.2.1, ← w3.2.2] at c3
  obtain ⟨v4, a4, b4, w4⟩ : ∃ v a b, v = nV s.data.toList a3 b3 1 ∧ a = nA s.data.toList a3 b3 1 ∧ b = numBad s.data.toList a3 b3 1 := ⟨_, _, _, rfl, rfl, rfl⟩
  have x4 : 0 ≤ a4 ∧ a4 ≤ 0 + 3 + 2 + 1 + 1 := by rw [w4.2.1]; exact nA_bd x3 (by decide)
  have c4 := number' s.data.toList hc a3 1 b3 hl (by decide) (wk x3 (by decide))
  rw [← w4.1, ← w4.2.1, ← w4.2.2] at c4
  have y4 : 0 ≤ v4 ∧ v4 ≤ 255 := by rw [w4.1]; exact nV1 _ _ _
  obtain ⟨t1, a5, b5, w5⟩ : ∃ t a b, t = takeV s.data.toList a4 b4 v4 ∧ a = tA s.data.toList a4 b4 v4 ∧ b = takeBad s.data.toList a4 b4 v4 := ⟨_, _, _, rfl, rfl, rfl⟩
  have x5 : 0 ≤ a5 ∧ a5 ≤ 0 + 3 + 2 + 1 + 1 + 255 := by rw [w5.2.1]; exact tA_bd x4 y4
  have c5 := take' s.data.toList hc a4 v4 b4 hl (wk y4 (by decide)) (wk x4 (by decide))
  rw [← w5.1, ← w5.2.1, ← w5.2.2] at c5
  have u5 : t1.length ≤ 1048576 := by rw [w5.1]; exact Nat.le_trans (takeV_len _ _ _ _) hl2
  obtain ⟨v5, a6, b6, w6⟩ : ∃ v a b, v = nV s.data.toList a5 b5 4 ∧ a = nA s.data.toList a5 b5 4 ∧ b = numBad s.data.toList a5 b5 4 := ⟨_, _, _, rfl, rfl, rfl⟩
  have x6 : 0 ≤ a6 ∧ a6 ≤ 0 + 3 + 2 + 1 + 1 + 255 + 4 := by rw [w6.2.1]; exact nA_bd x5 (by decide)
  have c6 := number' s.data.toList hc a5 4 b5 hl (by decide) (wk x5 (by decide))
  rw [← w6.1, ← w6.2.1, ← w6.2.2] at c6
  obtain ⟨v6, a7, b7, w7⟩ : ∃ v a b, v = nV s.data.toList a6 b6 1 ∧ a = nA s.data.toList a6 b6 1 ∧ b = numBad s.data.toList a6 b6 1 := ⟨_, _, _, rfl, rfl, rfl⟩
  have x7 : 0 ≤ a7 ∧ a7 ≤ 0 + 3 + 2 + 1 + 1 + 255 + 4 + 1 := by rw [w7.2.1]; exact nA_bd x6 (by decide)
  have c7 := number' s.data.toList hc a6 1 b6 hl (by decide) (wk x6 (by decide))
  rw [← w7.1, ← w7.2.1, ← w7.2.2] at c7
  have y7 : 0 ≤ v6 ∧ v6 ≤ 255 := by rw [w7.1]; exact nV1 _ _ _
  obtain ⟨t2, a8, b8, w8⟩ : ∃ t a b, t = takeV s.data.toList a7 b7 v6 ∧ a = tA s.data.toList a7 b7 v6 ∧ b = takeBad s.data.toList a7 b7 v6 := ⟨_, _, _, rfl, rfl, rfl⟩
  have c8 := take' s.data.toList hc a7 v6 b7 hl (wk y7 (by decide)) (wk x7 (by decide))
  rw [← w8.1, ← w8.2.1, ← w8.2.2] at c8
  have u8 : t2.length ≤ 1048576 := by rw [w8.1]; exact Nat.le_trans (takeV_len _ _ _ _) hl2
  have R : Rd8 s.data.toList v1 v2 v3 v4 v5 v6 a1 a2 a3 a4 a5 a6 a7 b1 b2 b3 b4 b5 b6 b7 b8 t1 t2 := ⟨w1, w2, w3, w4, w5, w6, w7, w8.1, w8.2.2⟩
  clear w1 w2 w3 w4 w5 w6 w7 w8 x1 x2 x3 x4 x5 x6 x7 y4 y7
  have hbt : (⟨((bT t1).map AM.byteTr).toArray⟩ : ByteArray) = ⟨t1.toArray⟩ := by rw [bT_bytes]
  have cR := recOk ⟨v1, v2, v3, ⟨((bT t1).map AM.byteTr).toArray⟩, v5, t2⟩ rfl (by rw [str_size]; omega)
  have cP := putRec ⟨v1, v2, v3, ⟨((bT t1).map AM.byteTr).toArray⟩, v5, t2⟩ rfl (by rw [str_size]; omega) u8
  obtain ⟨rok, hrok⟩ : ∃ b, b = recOkM ⟨v1, v2, v3, ⟨t1.toArray⟩, v5, t2⟩ := ⟨_, rfl⟩
  obtain ⟨ps, hps⟩ : ∃ b, b = putS ⟨v1, v2, v3, ⟨t1.toArray⟩, v5, t2⟩ := ⟨_, rfl⟩
  rw [show recOkM ⟨v1, v2, v3, ⟨((bT t1).map AM.byteTr).toArray⟩, v5, t2⟩ = rok by rw [hbt, hrok]] at cR
  rw [show putS ⟨v1, v2, v3, ⟨((bT t1).map AM.byteTr).toArray⟩, v5, t2⟩ = ps by rw [hbt, hps]] at cP
  have hM : getRecM s = if b8 = true then none else if rok && ps.toList == s.toList then some ⟨v1, v2, v3, ⟨t1.toArray⟩, v5, t2⟩ else none := by
    unfold getRecM
    split
    · rename_i h; rw [R.bad h]; rfl
    · rename_i h; rw [R.good (by simpa using h), hrok, hps]; rfl
  refine agood eok (fn := Try.f20) (by kernel_rfl) (by decide) rfl (by kernel_rfl) (recTr_okR _) (by simp [PB.okRL, PB.okR]) ?_
  rw [hM]
  clear hM R hrok hps hbt hl hl2
  repeat' (first | refine o_cons ?_ | refine w_ok rfl ?_ | refine w_call rfl (c1) ?_ | refine w_call rfl (c2) ?_ | refine w_call rfl (c3) ?_ | refine w_call rfl (c4) ?_ | refine w_call rfl (c5) ?_ | refine w_call rfl (c6) ?_ | refine w_call rfl (c7) ?_ | refine w_call rfl (c8) ?_ | refine w_call rfl (cR) ?_ | refine w_call rfl (cP) ?_ | refine o_nil ?_ | refine q_then ?_ | refine sq ?_ | refine aw_seq ?_ | refine aw_reg ?_ | refine w_pT rfl ka rfl ?_ | refine w_pF rfl ka rfl ?_ | refine o_y rfl ka ?_ | refine o_nT rfl ka ?_ | refine o_nF rfl ka ?_ | refine o_nU rfl ?_ | refine aw_cT rfl ka ?_ | refine aw_cF rfl ka ?_ | refine o_gT rfl (fun h => ?_) (fun h => ?_) | refine o_gF rfl (fun h => ?_) (fun h => ?_) | refine aw_cond rfl (fun h => ?_) (fun h => ?_) | refine aw_block ?_ | refine aw_skip ?_ | refine aw_ret ?_ | refine q_ret ?_ | refine q_blockN ?_ | refine q_blockR ?_ | refine aw_exit ?_ | refine q_exit ?_ | refine q_blockE ?_ | refine q_blockX de_ ?_ | refine fin_r rfl ?_ | (refine w_req rfl ?_ ?_; · first | assumption | exact trivial | exact ⟨rfl, rfl⟩ | exact rfl | exact bT_scal _ | exact bT_ints _ | exact bT_plain _ | exact sT_plain _ | exact sT_scal _ | exact ⟨[_], rfl⟩ | (unfold maxL; omega) | (simp [Tr.plainL, Tr.plain]; done) | (simp [scal, Tr.isSc]; done) | (simp_all <;> omega)) | (refine w_look rfl (el_bi ?_) ?_; · (simp_all <;> omega)) | refine w_look rfl (bT_app _ _) ?_ | refine w_look rfl (nil_bT _) ?_ | refine w_look rfl (nil_snoc _) ?_ | refine w_look rfl (nil_snoc2 _ _) ?_ | refine w_look rfl (bT_snoc _ _) ?_ | refine w_look rfl (bT_snoc2 _ _ _) ?_ | refine w_look rfl (bT_cut _ _ _) ?_ | (refine w_look rfl (upEl_bi ?_) ?_; · exact side_) | refine w_look (l' := _ :: _) rfl rfl ?_ | refine w_look (l' := []) rfl rfl ?_ | refine w_req rfl ?_ ?_ | refine w_pick rfl (fun b => ?_) | refine l_call rfl (c1) ?_ | refine l_call rfl (c2) ?_ | refine l_call rfl (c3) ?_ | refine l_call rfl (c4) ?_ | refine l_call rfl (c5) ?_ | refine l_call rfl (c6) ?_ | refine l_call rfl (c7) ?_ | refine l_call rfl (c8) ?_ | refine l_call rfl (cR) ?_ | refine l_call rfl (cP) ?_ | refine aw_drw kr_ ?_ | refine d_cons ?_ | refine l_ok rfl ?_ | refine d_nil kr_ ?_ | refine d_y rfl ka ?_ | refine d_nT rfl ka ?_ | refine d_nF rfl ka ?_ | refine d_nU rfl ?_ | refine l_pT rfl ka rfl ?_ | refine l_pF rfl ka rfl ?_ | refine d_gT rfl (fun h => ?_) (fun h => ?_) | refine d_gF rfl (fun h => ?_) (fun h => ?_) | (refine l_req rfl ?_ ?_; · first | assumption | exact trivial | exact ⟨rfl, rfl⟩ | exact rfl | exact bT_scal _ | exact bT_ints _ | exact bT_plain _ | exact sT_plain _ | exact sT_scal _ | exact ⟨[_], rfl⟩ | (unfold maxL; omega) | (simp [Tr.plainL, Tr.plain]; done) | (simp [scal, Tr.isSc]; done) | (simp_all <;> omega)) | (refine l_look rfl (el_bi ?_) ?_; · (simp_all <;> omega)) | refine l_look rfl (bT_app _ _) ?_ | refine l_look rfl (nil_bT _) ?_ | refine l_look rfl (nil_snoc _) ?_ | refine l_look rfl (nil_snoc2 _ _) ?_ | refine l_look rfl (bT_snoc _ _) ?_ | refine l_look rfl (bT_snoc2 _ _ _) ?_ | refine l_look rfl (bT_cut _ _ _) ?_ | (refine l_look rfl (upEl_bi ?_) ?_; · exact side_) | refine l_look (l' := _ :: _) rfl rfl ?_ | refine l_look (l' := []) rfl rfl ?_ | refine l_req rfl ?_ ?_)
  all_goals try simp only [bT_bytes]
  all_goals clear c1 c2 c3 c4 c5 c6 c7 c8 cR cP hc z0 u5 u8 hs
  all_goals simp_all [recTr, zeroR]
end Go.Proofs.Ytbkpmljdmlhmhaa
