import Derived.Test.YtbkpmljdmlhmhaaD1
import Derived.Test.YtbkpmljdmlhmhaaE6
namespace Go.Proofs.Ytbkpmljdmlhmhaa
open Go Go.AM Ty
set_option maxRecDepth 100000
set_option maxHeartbeats 4000000
set_option linter.unusedVariables false
set_option linter.unusedSimpArgs false
attribute [local irreducible] aw aops aopsD wpo wpoL condW guardW thenQ blockQ finQ Le AGood
attribute [local irreducible] bwC bwX btC btX
/-- a drawn record -/
def rdC1 (l : List UInt8) (c : Cur) : Cur := bwC l c 3
def rdC2 (l : List UInt8) (c : Cur) : Cur := bwC l (rdC1 l c) 5
def rdC3 (l : List UInt8) (c : Cur) : Cur := bwC l (rdC2 l c) 3
def rdK (l : List UInt8) (c : Cur) : Int := ([1, 2, 2, 3, 4] : List Int).getD (bwX l (rdC1 l c) 5).toNat 0
def rdS (l : List UInt8) (c : Cur) : ByteArray := ([⟨#[97]⟩, ⟨#[98]⟩, ⟨#[117, 112, 49]⟩] : List ByteArray).getD (bwX l (rdC2 l c) 3).toNat emp
def rdM (l : List UInt8) (c : Cur) : Int := ([1, 3, 24] : List Int).getD (bwX l (bwC l (rdC3 l c) 3) 3).toNat 0
def rdR (l : List UInt8) (c : Cur) (seq : Int) : Rc :=
  ⟨bwX l c 3, seq, rdK l c, rdS l c, if rdK l c = 1 then ([0, 5, 30] : List Int).getD (bwX l (rdC3 l c) 3).toNat 0 else if rdK l c = 2 then ([0, 3, 24] : List Int).getD (bwX l (rdC3 l c) 3).toNat 0 else 0,
    if rdK l c = 2 then btX l (bwC l (bwC l (rdC3 l c) 3) 3) (rdM l c).toNat else []⟩
def rdC (l : List UInt8) (c : Cur) : Cur := if rdK l c = 1 then bwC l (rdC3 l c) 3 else if rdK l c = 2 then btC l (bwC l (bwC l (rdC3 l c) 3) 3) (rdM l c).toNat else rdC3 l c
theorem getD3 {a b c : Int} {j : Nat} {P : Int → Prop} (h0 : P 0) (ha : P a) (hb : P b) (hc : P c) : P (([a, b, c] : List Int).getD j 0) := by
  match j with
  | 0 => exact ha
  | 1 => exact hb
  | 2 => exact hc
  | j + 3 => exact h0
theorem getD5 {a b c d f : Int} {j : Nat} {P : Int → Prop} (h0 : P 0) (ha : P a) (hb : P b) (hc : P c) (hd : P d) (hf : P f) : P (([a, b, c, d, f] : List Int).getD j 0) := by
  match j with
  | 0 => exact ha
  | 1 => exact hb
  | 2 => exact hc
  | 3 => exact hd
  | 4 => exact hf
  | j + 5 => exact h0
theorem rdM_bd (l : List UInt8) (c : Cur) : 0 ≤ rdM l c ∧ rdM l c ≤ 24 := by
  unfold rdM
  exact getD3 (P := fun x => 0 ≤ x ∧ x ≤ 24) (by decide) (by decide) (by decide) (by decide)
theorem rdC3_ok {l : List UInt8} {c : Cur} (h : c.ok l) : (rdC3 l c).ok l := bwC_ok _ (bwC_ok _ (bwC_ok _ h))
theorem rdC_ok {l : List UInt8} {c : Cur} (h : c.ok l) : (rdC l c).ok l := by
  unfold rdC
  split
  · exact bwC_ok _ (rdC3_ok h)
  · split
    · exact btC_ok (bwC_ok _ (bwC_ok _ (rdC3_ok h))) _
    · exact rdC3_ok h
theorem rdS_size (l : List UInt8) (c : Cur) : (rdS l c).size ≤ 3 := by
  unfold rdS
  match (bwX l (rdC2 l c) 3).toNat with
  | 0 => decide
  | 1 => decide
  | 2 => decide
  | j + 3 => exact (by decide : (emp : ByteArray).size ≤ 3)
theorem rdR_d (l : List UInt8) (c : Cur) (seq : Int) : (rdR l c seq).d.length ≤ 24 := by
  unfold rdR
  simp only
  split
  · rw [btX_len]; have := rdM_bd l c; omega
  · simp
theorem l13Rec (l : List UInt8) {m : Nat} (hm : m = l.length) (c : Cur) (seq : Int) (hc : c.ok l) (hl : l.length ≤ 4294967296) : AGood e.P 100 [curPA l m c, .ro (.int .i64 seq)] (rdR l c seq).tr [curPB (rdC l c), .keep] := by
  subst hm
  have c1 := l1Below l rfl c 3 hc hl
  have k1 : (rdC1 l c).ok l := bwC_ok _ hc
  have c2 := l1Int l rfl (rdC1 l c) [1, 2, 2, 3, 4] (k := 5) rfl (by decide) k1 hl
  have k2 : (rdC2 l c).ok l := bwC_ok _ k1
  have c3 := l1Str l rfl (rdC2 l c) [⟨#[97]⟩, ⟨#[98]⟩, ⟨#[117, 112, 49]⟩] (k := 3) rfl (by decide) k2 hl
  have k3 : (rdC3 l c).ok l := bwC_ok _ k2
  have hm := rdM_bd l c
  by_cases h1 : rdK l c = 1
  · have e : rdR l c seq = ⟨bwX l c 3, seq, rdK l c, rdS l c, ([0, 5, 30] : List Int).getD (bwX l (rdC3 l c) 3).toNat 0, []⟩ := by unfold rdR; rw [if_pos h1, if_neg (by omega)]
    have ec : rdC l c = bwC l (rdC3 l c) 3 := by unfold rdC; rw [if_pos h1]
    rw [e, ec]
    have q1 : (rdK l c == 1) = true := by simpa using h1
    have c4 := l1Int l rfl (rdC3 l c) [0, 5, 30] (k := 3) rfl (by decide) k3 hl
    refine agood eok (fn := Try.f100) (by kernel_rfl) (by decide) rfl (by kernel_rfl) (by first | trivial | exact bT_plain _ | (simp [Tr.okR, Tr.okRL, Tr.plainL, Tr.plain, cells1, Tr.cellB, bT_plain, PB.okRL, PB.okR]; done) | (simp [Tr.okR, Tr.okRL, Tr.plainL, Tr.plain, cells1, Tr.cellB, PB.okRL, PB.okR, bT_plain, sT_plain, oT_plain, nT_plain]; done)) (by first | trivial | exact bT_plain _ | (simp [Tr.okR, Tr.okRL, Tr.plainL, Tr.plain, cells1, Tr.cellB, bT_plain, PB.okRL, PB.okR]; done) | (simp [Tr.okR, Tr.okRL, Tr.plainL, Tr.plain, cells1, Tr.cellB, PB.okRL, PB.okR, bT_plain, sT_plain, oT_plain, nT_plain]; done)) ?_
    repeat' (first | refine o_cons ?_ | refine w_ok rfl ?_ | refine w_call rfl (c1) ?_ | refine w_call rfl (c2) ?_ | refine w_call rfl (c3) ?_ | refine w_call rfl (c4) ?_ | refine o_nil ?_ | refine q_then ?_ | refine sq ?_ | refine aw_seq ?_ | refine aw_reg ?_ | refine w_pT rfl (by first | assumption | rfl) rfl ?_ | refine w_pF rfl (by first | assumption | rfl) rfl ?_ | refine o_y rfl (by first | assumption | rfl) ?_ | refine o_nT rfl (by first | assumption | rfl) ?_ | refine o_nF rfl (by first | assumption | rfl) ?_ | refine o_nU rfl ?_ | refine aw_cT rfl (by first | assumption | rfl) ?_ | refine aw_cF rfl (by first | assumption | rfl) ?_ | refine o_gT rfl (fun h => ?_) (fun h => ?_) | refine o_gF rfl (fun h => ?_) (fun h => ?_) | refine aw_cond rfl (fun h => ?_) (fun h => ?_) | refine aw_block ?_ | refine aw_skip ?_ | refine aw_ret ?_ | refine q_ret ?_ | refine q_blockN ?_ | refine q_blockR ?_ | refine aw_exit ?_ | refine q_exit ?_ | refine q_blockE ?_ | refine q_blockX (by decide) ?_ | refine fin_r rfl ?_ | (refine w_req rfl ?_ ?_; · first | exact trivial | exact ⟨rfl, rfl⟩ | exact rfl | exact bT_scal _ | exact bT_ints _ | exact bT_plain _ | exact sT_plain _ | exact sT_scal _ | exact oT_plain _ | exact oT_scal _ | exact nT_scal _ | exact ⟨[_], rfl⟩ | (unfold maxL; omega) | (simp [Tr.plainL, Tr.plain]; done) | (simp [scal, Tr.isSc]; done) | (simp_all <;> omega)) | (refine w_look rfl (el_bi ?_) ?_; · (simp_all <;> omega)) | refine w_look rfl (bT_app _ _) ?_ | refine w_look rfl (nil_bT _) ?_ | refine w_look rfl (nil_snoc _) ?_ | refine w_look rfl (nil_snoc2 _ _) ?_ | refine w_look rfl (bT_snoc _ _) ?_ | refine w_look rfl (bT_snoc2 _ _ _) ?_ | refine w_look rfl (bT_cut _ _ _) ?_ | (refine w_look rfl (upEl_bi ?_) ?_; · (first | omega | (simp only [decide_eq_true_eq, decide_eq_false_iff_not, Int.not_lt, Int.not_le, Bool.not_eq_true', Bool.not_eq_false', gt_iff_lt, ge_iff_le] at *; omega) | (simp_all <;> omega)); skip) | refine w_look (l' := _ :: _) rfl rfl ?_ | refine w_look (l' := []) rfl rfl ?_ | refine w_req rfl ?_ ?_ | refine w_pick rfl (fun b => ?_))
    rfl
  · have q1 : (rdK l c == 1) = false := by simpa using h1
    by_cases h2 : rdK l c = 2
    · have e : rdR l c seq = ⟨bwX l c 3, seq, rdK l c, rdS l c, ([0, 3, 24] : List Int).getD (bwX l (rdC3 l c) 3).toNat 0, btX l (bwC l (bwC l (rdC3 l c) 3) 3) (rdM l c).toNat⟩ := by unfold rdR; rw [if_neg h1, if_pos h2, if_pos h2]
      have ec : rdC l c = btC l (bwC l (bwC l (rdC3 l c) 3) 3) (rdM l c).toNat := by unfold rdC; rw [if_neg h1, if_pos h2]
      rw [e, ec]
      have q2 : (rdK l c == 2) = true := by simpa using h2
      have c4 := l1Int l rfl (rdC3 l c) [0, 3, 24] (k := 3) rfl (by decide) k3 hl
      have k4 : (bwC l (rdC3 l c) 3).ok l := bwC_ok _ k3
      have c5 := l1Int l rfl (bwC l (rdC3 l c) 3) [1, 3, 24] (k := 3) rfl (by decide) k4 hl
      have c6 := l1Bytes l rfl (bwC l (bwC l (rdC3 l c) 3) 3) (rdM l c) (by omega) (bwC_ok _ k4) hl
      refine agood eok (fn := Try.f100) (by kernel_rfl) (by decide) rfl (by kernel_rfl) (by first | trivial | exact bT_plain _ | (simp [Tr.okR, Tr.okRL, Tr.plainL, Tr.plain, cells1, Tr.cellB, bT_plain, PB.okRL, PB.okR]; done) | (simp [Tr.okR, Tr.okRL, Tr.plainL, Tr.plain, cells1, Tr.cellB, PB.okRL, PB.okR, bT_plain, sT_plain, oT_plain, nT_plain]; done)) (by first | trivial | exact bT_plain _ | (simp [Tr.okR, Tr.okRL, Tr.plainL, Tr.plain, cells1, Tr.cellB, bT_plain, PB.okRL, PB.okR]; done) | (simp [Tr.okR, Tr.okRL, Tr.plainL, Tr.plain, cells1, Tr.cellB, PB.okRL, PB.okR, bT_plain, sT_plain, oT_plain, nT_plain]; done)) ?_
      repeat' (first | refine o_cons ?_ | refine w_ok rfl ?_ | refine w_call rfl (c1) ?_ | refine w_call rfl (c2) ?_ | refine w_call rfl (c3) ?_ | refine w_call rfl (c4) ?_ | refine w_call rfl (c5) ?_ | refine w_call rfl (c6) ?_ | refine o_nil ?_ | refine q_then ?_ | refine sq ?_ | refine aw_seq ?_ | refine aw_reg ?_ | refine w_pT rfl (by first | assumption | rfl) rfl ?_ | refine w_pF rfl (by first | assumption | rfl) rfl ?_ | refine o_y rfl (by first | assumption | rfl) ?_ | refine o_nT rfl (by first | assumption | rfl) ?_ | refine o_nF rfl (by first | assumption | rfl) ?_ | refine o_nU rfl ?_ | refine aw_cT rfl (by first | assumption | rfl) ?_ | refine aw_cF rfl (by first | assumption | rfl) ?_ | refine o_gT rfl (fun h => ?_) (fun h => ?_) | refine o_gF rfl (fun h => ?_) (fun h => ?_) | refine aw_cond rfl (fun h => ?_) (fun h => ?_) | refine aw_block ?_ | refine aw_skip ?_ | refine aw_ret ?_ | refine q_ret ?_ | refine q_blockN ?_ | refine q_blockR ?_ | refine aw_exit ?_ | refine q_exit ?_ | refine q_blockE ?_ | refine q_blockX (by decide) ?_ | refine fin_r rfl ?_ | (refine w_req rfl ?_ ?_; · first | exact trivial | exact ⟨rfl, rfl⟩ | exact rfl | exact bT_scal _ | exact bT_ints _ | exact bT_plain _ | exact sT_plain _ | exact sT_scal _ | exact oT_plain _ | exact oT_scal _ | exact nT_scal _ | exact ⟨[_], rfl⟩ | (unfold maxL; omega) | (simp [Tr.plainL, Tr.plain]; done) | (simp [scal, Tr.isSc]; done) | (simp_all <;> omega)) | (refine w_look rfl (el_bi ?_) ?_; · (simp_all <;> omega)) | refine w_look rfl (bT_app _ _) ?_ | refine w_look rfl (nil_bT _) ?_ | refine w_look rfl (nil_snoc _) ?_ | refine w_look rfl (nil_snoc2 _ _) ?_ | refine w_look rfl (bT_snoc _ _) ?_ | refine w_look rfl (bT_snoc2 _ _ _) ?_ | refine w_look rfl (bT_cut _ _ _) ?_ | (refine w_look rfl (upEl_bi ?_) ?_; · (first | omega | (simp only [decide_eq_true_eq, decide_eq_false_iff_not, Int.not_lt, Int.not_le, Bool.not_eq_true', Bool.not_eq_false', gt_iff_lt, ge_iff_le] at *; omega) | (simp_all <;> omega)); skip) | refine w_look (l' := _ :: _) rfl rfl ?_ | refine w_look (l' := []) rfl rfl ?_ | refine w_req rfl ?_ ?_ | refine w_pick rfl (fun b => ?_))
      refine Eq.trans ?_ (congrArg (fun n => (Tr.agg [.int .i64 (bwX l c 3), .int .i64 seq, .int .i64 (rdK l c), .str (rdS l c), .int .i64 (([0, 3, 24] : List Int).getD (bwX l (rdC3 l c) 3).toNat 0), .row 1 n (bT (btX l (bwC l (bwC l (rdC3 l c) 3) 3) (rdM l c).toNat))], [curPB (btC l (bwC l (bwC l (rdC3 l c) 3) 3) (rdM l c).toNat), PB.keep])) (btX_len l (bwC l (bwC l (rdC3 l c) 3) 3) (rdM l c).toNat).symm)
      rfl
    · have e : rdR l c seq = ⟨bwX l c 3, seq, rdK l c, rdS l c, 0, []⟩ := by unfold rdR; rw [if_neg h1, if_neg h2, if_neg h2]
      have ec : rdC l c = rdC3 l c := by unfold rdC; rw [if_neg h1, if_neg h2]
      rw [e, ec]
      have q2 : (rdK l c == 2) = false := by simpa using h2
      refine agood eok (fn := Try.f100) (by kernel_rfl) (by decide) rfl (by kernel_rfl) (by first | trivial | exact bT_plain _ | (simp [Tr.okR, Tr.okRL, Tr.plainL, Tr.plain, cells1, Tr.cellB, bT_plain, PB.okRL, PB.okR]; done) | (simp [Tr.okR, Tr.okRL, Tr.plainL, Tr.plain, cells1, Tr.cellB, PB.okRL, PB.okR, bT_plain, sT_plain, oT_plain, nT_plain]; done)) (by first | trivial | exact bT_plain _ | (simp [Tr.okR, Tr.okRL, Tr.plainL, Tr.plain, cells1, Tr.cellB, bT_plain, PB.okRL, PB.okR]; done) | (simp [Tr.okR, Tr.okRL, Tr.plainL, Tr.plain, cells1, Tr.cellB, PB.okRL, PB.okR, bT_plain, sT_plain, oT_plain, nT_plain]; done)) ?_
      repeat' (first | refine o_cons ?_ | refine w_ok rfl ?_ | refine w_call rfl (c1) ?_ | refine w_call rfl (c2) ?_ | refine w_call rfl (c3) ?_ | refine o_nil ?_ | refine q_then ?_ | refine sq ?_ | refine aw_seq ?_ | refine aw_reg ?_ | refine w_pT rfl (by first | assumption | rfl) rfl ?_ | refine w_pF rfl (by first | assumption | rfl) rfl ?_ | refine o_y rfl (by first | assumption | rfl) ?_ | refine o_nT rfl (by first | assumption | rfl) ?_ | refine o_nF rfl (by first | assumption | rfl) ?_ | refine o_nU rfl ?_ | refine aw_cT rfl (by first | assumption | rfl) ?_ | refine aw_cF rfl (by first | assumption | rfl) ?_ | refine o_gT rfl (fun h => ?_) (fun h => ?_) | refine o_gF rfl (fun h => ?_) (fun h => ?_) | refine aw_cond rfl (fun h => ?_) (fun h => ?_) | refine aw_block ?_ | refine aw_skip ?_ | refine aw_ret ?_ | refine q_ret ?_ | refine q_blockN ?_ | refine q_blockR ?_ | refine aw_exit ?_ | refine q_exit ?_ | refine q_blockE ?_ | refine q_blockX (by decide) ?_ | refine fin_r rfl ?_ | (refine w_req rfl ?_ ?_; · first | exact trivial | exact ⟨rfl, rfl⟩ | exact rfl | exact bT_scal _ | exact bT_ints _ | exact bT_plain _ | exact sT_plain _ | exact sT_scal _ | exact oT_plain _ | exact oT_scal _ | exact nT_scal _ | exact ⟨[_], rfl⟩ | (unfold maxL; omega) | (simp [Tr.plainL, Tr.plain]; done) | (simp [scal, Tr.isSc]; done) | (simp_all <;> omega)) | (refine w_look rfl (el_bi ?_) ?_; · (simp_all <;> omega)) | refine w_look rfl (bT_app _ _) ?_ | refine w_look rfl (nil_bT _) ?_ | refine w_look rfl (nil_snoc _) ?_ | refine w_look rfl (nil_snoc2 _ _) ?_ | refine w_look rfl (bT_snoc _ _) ?_ | refine w_look rfl (bT_snoc2 _ _ _) ?_ | refine w_look rfl (bT_cut _ _ _) ?_ | (refine w_look rfl (upEl_bi ?_) ?_; · (first | omega | (simp only [decide_eq_true_eq, decide_eq_false_iff_not, Int.not_lt, Int.not_le, Bool.not_eq_true', Bool.not_eq_false', gt_iff_lt, ge_iff_le] at *; omega) | (simp_all <;> omega)); skip) | refine w_look (l' := _ :: _) rfl rfl ?_ | refine w_look (l' := []) rfl rfl ?_ | refine w_req rfl ?_ ?_ | refine w_pick rfl (fun b => ?_))
      rfl
end Go.Proofs.Ytbkpmljdmlhmhaa
