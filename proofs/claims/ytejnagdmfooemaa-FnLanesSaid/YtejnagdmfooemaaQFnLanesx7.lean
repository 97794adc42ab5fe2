/- Contracts of functions of the translation, each with its pure function; printed by a program of this session (wip/pr.py) over the kit's print; no condition of its own. -/
import Derived.Test.YtejnagdmfooemaaQFnLanesx0
import Derived.Test.YtejnagdmfooemaaQFnLanesx1
import Derived.Test.YtejnagdmfooemaaQFnLanesx2
import Derived.Test.YtejnagdmfooemaaQFnLanesx4
namespace Go.Proofs.Ytejnagdmfooemaa.QFnLanes
open Go.RowKit Go.Proofs.YtejnagdmfooemaaW.PrintWords Go.Proofs.YtejnagdmfooemaaW.PrintLast Go.Proofs.YtejnagdmfooemaaW.PrintMore
attribute [local go_sem] max2_int min2_int max_two min_two max_three min_three max_four min_four   -- for this text's walks alone
set_option linter.unusedVariables false
set_option linter.unusedSimpArgs false

/-! ### spec_Grant: function 28 -/
def spec_Grant.j0 : Nat → Int → Int → Int → Bool → Int → Int → List (S48) → Int → Int → List (S48) → Option (Int × Int × (List (S48)) × Bool)
  | 0, _, _, _, _, _, _, _, _, _, _ => none
  | k + 1, x1, x2, x9, x25, x292000, x292001, x292002, x299000, x299001, x299002 => if x25 = true then (some (x299000, x299001, x299002, false)) else (if x1 = 0 then ((spec_l10Ends.f k x292000 x292001 x292002 (wrap64 (x299000 + x2)) x299001 x299002 true).bind fun bt301 => (some (bt301.1, bt301.2.1, bt301.2.2.1, bt301.2.2.2))) else (if 0 ≤ x9 then (if x9 < (x299002.length : Int) then ((spec_l10Ends.f k x292000 x292001 x292002 x299000 x299001 (x299002.set (x9 : Int).toNat (⟨(rd_T48 x299002 x9).f0, wrap64 (((rd_T48 x299002 x9).f1) + x2)⟩ : S48)) true).bind fun bt309 => (some (bt309.1, bt309.2.1, bt309.2.2.1, bt309.2.2.2))) else (none)) else (none)))
def spec_Grant.f (k : Nat) (a0_0 : Int) (a0_1 : Int) (l0_2 : List (S48)) (a1 : Int) (a2 : Int) : Option (Int × Int × (List (S48)) × Bool) := (spec_l10Copy.f a0_0 a0_1 l0_2).bind fun bt293 => ((spec_l10At.f k a0_0 a0_1 l0_2 a1).bind fun t299 => ((spec_l1In.f a2 1 2147483647).bind fun t300 => (if t300 = true then (if a1 = 0 then (spec_Grant.j0 k a1 a2 t299 false a0_0 a0_1 l0_2 bt293.1 bt293.2.1 bt293.2.2) else (spec_Grant.j0 k a1 a2 t299 (decide (t299 < 0)) a0_0 a0_1 l0_2 bt293.1 bt293.2.1 bt293.2.2)) else (spec_Grant.j0 k a1 a2 t299 true a0_0 a0_1 l0_2 bt293.1 bt293.2.1 bt293.2.2))))
theorem spec_Grant.mono_l : ∀ k, (∀ y0 y1 y2 y3 y4 y5 y6 y7 y8 y9, LeO (spec_Grant.j0 k y0 y1 y2 y3 y4 y5 y6 y7 y8 y9) (spec_Grant.j0 (k + 1) y0 y1 y2 y3 y4 y5 y6 y7 y8 y9))
  | 0 => fun _ _ _ _ _ _ _ _ _ _ r h => by simp [spec_Grant.j0] at h
  | k + 1 => by
    have ih0 := spec_Grant.mono_l k
    · intro y0 y1 y2 y3 y4 y5 y6 y7 y8 y9
      unfold spec_Grant.j0
      repeat' first
      | (with_reducible exact ih0 _ _ _ _ _ _ _ _ _ _)
      | (with_reducible exact spec_l10At.mono _ _ _ _ _)
      | (with_reducible exact spec_l10Ends.mono _ _ _ _ _ _ _ _)
      | (with_reducible exact LeO.refl _)
      | (with_reducible exact LeO.none _)
      | (with_reducible refine LeO.ite ?_ ?_)
      | (with_reducible refine LeO.bind ?_ (fun _ => ?_))
      | exact ih0 _ _ _ _ _ _ _ _ _ _
      | exact spec_l10At.mono _ _ _ _ _
      | exact spec_l10Ends.mono _ _ _ _ _ _ _ _
      | exact LeO.none _
      | refine LeO.ite ?_ ?_
      | refine LeO.bind ?_ (fun _ => ?_)
theorem spec_Grant.mono : ∀ a0 a1 a2 a3 a4 k, LeO (spec_Grant.f k a0 a1 a2 a3 a4) (spec_Grant.f (k + 1) a0 a1 a2 a3 a4) := by
  intro a0 a1 a2 a3 a4 k
  have ih0 := spec_Grant.mono_l k
  unfold spec_Grant.f
  repeat' first
      | (with_reducible exact ih0 _ _ _ _ _ _ _ _ _ _)
      | (with_reducible exact spec_l10At.mono _ _ _ _ _)
      | (with_reducible exact spec_l10Ends.mono _ _ _ _ _ _ _ _)
      | (with_reducible exact LeO.refl _)
      | (with_reducible exact LeO.none _)
      | (with_reducible refine LeO.ite ?_ ?_)
      | (with_reducible refine LeO.bind ?_ (fun _ => ?_))
      | exact ih0 _ _ _ _ _ _ _ _ _ _
      | exact spec_l10At.mono _ _ _ _ _
      | exact spec_l10Ends.mono _ _ _ _ _ _ _ _
      | exact LeO.none _
      | refine LeO.ite ?_ ?_
      | refine LeO.bind ?_ (fun _ => ?_)
def spec_Grant.T7 : Bool × List (List Nat × List Nat) := (true, [([], []), ([0], [0]), ([], []), ([], []), ([3], [3]), ([], []), ([4, 5], [4, 5]), ([6], [6]), ([7], [7]), ([], []), ([8, 9], [8, 9]), ([1, 2, 0, 1, 2, 3, 4, 5, 6, 7, 8, 9, 10], [1, 2]), ([11, 0, 1, 2, 3, 4, 5, 6, 7, 8, 9, 10], [11]), ([12, 10, 0, 1, 2, 3, 4, 5, 6, 7, 8, 9, 10], [10, 12])])
def spec_Grant.B7 : List Nat := [0, 1, 0, 0, 8, 0, 56, 120, 248, 0, 1016, 2047, 4095, 8191]
theorem spec_Grant.tab7 : rtab .any (opsOf Try.f28 7) = spec_Grant.T7 := by kernel_rfl
theorem spec_Grant.bits7 : waitsOk spec_Grant.T7.2 spec_Grant.B7 = true := by kernel_rfl
set_option maxHeartbeats 8000000 in
set_option maxRecDepth 100000 in
theorem spec_Grant.calls (k : Nat) (a0_0 : Int) (a0_1 : Int) (A0_2 : Option Addr) (c0_2 : Nat) (l0_2 : List (S48)) (a1 : Int) (a2 : Int) (r1 : Int) (r2 : Int) (r3 : List (S48)) (r4 : Bool) (w : World) (hr0_2 : Kd.C k48 w A0_2 l0_2.length l0_2) (hc0_2 : l0_2.length ≤ c0_2) (h : spec_Grant.f k a0_0 a0_1 l0_2 a1 a2 = some (r1, r2, r3, r4)) :
    Calls Try.prog 28 #[.agg #[.int .i64 a0_0, .int .i64 a0_1, .slice A0_2 l0_2.length c0_2], .int .i64 a1, .int .i64 a2] w fun e w' => ∃ v2_ : Value, e = .returned (.tuple #[.agg #[.int .i64 r1, .int .i64 r2, v2_], .bool r4]) ∧ Kd.R k48 48 w' w.heap.size (fun _ => True) v2_ r3 ∧ Below w.heap.size w w' := by
  have hu24 := Try.underlying24
  have HR0_2 := Aside0.mk hr0_2
  have HC0_2 := Aside0.mk hc0_2
  clear hr0_2 hc0_2
  have HB := As_ (Below.refl w.heap.size w)
  have H : ((spec_l10Copy.f a0_0 a0_1 l0_2).bind fun bt293 => ((spec_l10At.f k a0_0 a0_1 l0_2 a1).bind fun t299 => ((spec_l1In.f a2 1 2147483647).bind fun t300 => (if t300 = true then (if a1 = 0 then (spec_Grant.j0 k a1 a2 t299 false a0_0 a0_1 l0_2 bt293.1 bt293.2.1 bt293.2.2) else (spec_Grant.j0 k a1 a2 t299 (decide (t299 < 0)) a0_0 a0_1 l0_2 bt293.1 bt293.2.1 bt293.2.2)) else (spec_Grant.j0 k a1 a2 t299 true a0_0 a0_1 l0_2 bt293.1 bt293.2.1 bt293.2.2))))) = some (r1, r2, r3, r4) := h
  clear h
  replace H := Option.bind_eq_some_iff.mp H
  obtain ⟨⟨t293, t294, t295⟩, A40, H⟩ := H
  replace H : ((spec_l10At.f k a0_0 a0_1 l0_2 a1).bind fun t299 => ((spec_l1In.f a2 1 2147483647).bind fun t300 => (if t300 = true then (if a1 = 0 then (spec_Grant.j0 k a1 a2 t299 false a0_0 a0_1 l0_2 t293 t294 t295) else (spec_Grant.j0 k a1 a2 t299 (decide (t299 < 0)) a0_0 a0_1 l0_2 t293 t294 t295)) else (spec_Grant.j0 k a1 a2 t299 true a0_0 a0_1 l0_2 t293 t294 t295)))) = some (r1, r2, r3, r4) := H
  have A4 := Aside0.mk A40
  clear A40
  replace H := Option.bind_eq_some_iff.mp H
  obtain ⟨t299, A50, H⟩ := H
  replace H : ((spec_l1In.f a2 1 2147483647).bind fun t300 => (if t300 = true then (if a1 = 0 then (spec_Grant.j0 k a1 a2 t299 false a0_0 a0_1 l0_2 t293 t294 t295) else (spec_Grant.j0 k a1 a2 t299 (decide (t299 < 0)) a0_0 a0_1 l0_2 t293 t294 t295)) else (spec_Grant.j0 k a1 a2 t299 true a0_0 a0_1 l0_2 t293 t294 t295))) = some (r1, r2, r3, r4) := H
  have A5 := Aside0.mk A50
  clear A50
  have HC6 := Aside0.mk H
  clear H
  go_enter Try.func28, Try.ntmps28
  go_upto_region 3 with (first | ((with_reducible refine gate_dst (N := 3) rfl ?_); refine box_event ?hg (N := 3) ?hd (cs := #[.int .i64 a0_0, .int .i64 a0_1, .slice A0_2 l0_2.length c0_2]) (t := 24) ?hr ?_; (case hd => rfl); (case hg => rfl); (case hr => first | (go_simp; done) | (go_simp; rfl)); intro gb291 hg w7 hbox hb; have n0_ := As_ (below_step (zb0_ HB.out) hb); have n1_ := As_ (hbox); have n2_ := As_ ((sb_ hg (zb0_ HB.out) : w.heap.size ≤ gb291)); have n3_ := As_ ((sb_ hg (zb0_ HB.out) : w.heap.size ≤ gb291)); clear HB; have HB := n0_; have BK291 := n1_; have GW291 := n2_; have GE291 := n3_; clear n0_ n1_ n2_ n3_ hb hbox hg) | ((with_reducible refine gate_dst (N := 6) rfl ?_); refine box_event ?hg (N := 6) ?hd (cs := #[.int .i64 0, .int .i64 0, .slice none 0 0]) (t := 24) ?hr ?_; (case hd => rfl); (case hg => rfl); (case hr => first | (go_simp; done) | (go_simp; rfl)); intro gb292 hg w8 hbox hb; have n0_ := As_ (blk_below (g := gb291) (o := .cells #[.int .i64 a0_0, .int .i64 a0_1, .slice A0_2 l0_2.length c0_2] 24 (0, 0)) (ak_ BK291.out) hb); have n1_ := As_ (below_step (zb1_ HB.out GE291.out) hb); have n2_ := As_ (hbox); have n3_ := As_ ((sb_ hg (zb1_ HB.out GE291.out) : w.heap.size ≤ gb292)); have n4_ := As_ ((sb_ hg (zb1_ HB.out GE291.out) : w.heap.size ≤ gb292)); have n5_ := As_ ((nl_ hg BK291.out : gb291 ≠ gb292)); have n6_ := As_ ((ng_ hg BK291.out : gb292 ≠ gb291)); clear BK291 HB; have BK291 := n0_; have HB := n1_; have BK292 := n2_; have GW292 := n3_; have GE292 := n4_; have NB291_292 := n5_; have NB292_291 := n6_; clear n0_ n1_ n2_ n3_ n4_ n5_ n6_ hb hbox hg; have hnb9 := NB291_292.out; have hnc9 := NB292_291.out; obtain ⟨hcz10_0, hcz10_1, hcz10_2, hfz10_0, hfz10_1, hfz10_2⟩ := blk_all3 BK291.out) | ((with_reducible refine gate_callee (f := 47) rfl ?_); refine goesL_ (some 11) rfl rfl Try.func47 (by kernel_rfl) rfl #[.agg #[.int .i64 a0_0, .int .i64 a0_1, .slice A0_2 l0_2.length c0_2]] rfl tm_ ?_; (with_reducible refine (spec_l10Copy.calls a0_0 a0_1 _ _ l0_2 t293 t294 t295 _ ?side1 ?side2 A4.out).mono ?_); (case side1 => repeat (first | exact (Kd.C_below HR0_2.out HB.out) | (with_reducible first | apply cA_ | apply cN_ | apply cD_))); (case side2 => exact HC0_2.out); rintro e w11 ⟨v296, rfl, ho0, hb⟩; refine ⟨_, rfl, ?_⟩; have HO297 := As_ (Kd.R_lower ho0 (below_size (zb2_ HB.out GE291.out GE292.out))); replace BK291 := As_ (blk_below (g := gb291) (o := .cells #[.int .i64 a0_0, .int .i64 a0_1, .slice A0_2 l0_2.length c0_2] 24 (0, 0)) (ak_ BK291.out) hb); replace BK292 := As_ (blk_below (g := gb292) (o := .cells #[.int .i64 0, .int .i64 0, .slice none 0 0] 24 (0, 0)) (ak_ BK292.out) hb); replace HB := As_ (below_step (zb2_ HB.out GE291.out GE292.out) hb); (try clear hb); (try clear hb2); (try clear hk); (try clear hi); (try clear ho0)) | ((with_reducible refine gate_dst (N := 8) rfl ?_); refine box_event ?hg (N := 8) ?hd (cs := #[.int .i64 0, .int .i64 0, .slice none 0 0]) (t := 24) ?hr ?_; (case hd => rfl); (case hg => rfl); (case hr => first | (go_simp; done) | (go_simp; rfl)); intro gb298 hg w12 hbox hb; have n0_ := As_ (Kd.R_below (rk_ HO297.out) hb); have n1_ := As_ (blk_below (g := gb291) (o := .cells #[.int .i64 a0_0, .int .i64 a0_1, .slice A0_2 l0_2.length c0_2] 24 (0, 0)) (ak_ BK291.out) hb); have n2_ := As_ (blk_below (g := gb292) (o := .cells #[.int .i64 0, .int .i64 0, .slice none 0 0] 24 (0, 0)) (ak_ BK292.out) hb); have n3_ := As_ (below_step (zb2_ HB.out GE291.out GE292.out) hb); have n4_ := As_ (hbox); have n5_ := As_ ((sb_ hg (zb2_ HB.out GE291.out GE292.out) : w.heap.size ≤ gb298)); have n6_ := As_ ((sb_ hg (zb2_ HB.out GE291.out GE292.out) : w.heap.size ≤ gb298)); have n7_ := As_ ((nl_ hg BK291.out : gb291 ≠ gb298)); have n8_ := As_ ((ng_ hg BK291.out : gb298 ≠ gb291)); have n9_ := As_ ((nl_ hg BK292.out : gb292 ≠ gb298)); have n10_ := As_ ((ng_ hg BK292.out : gb298 ≠ gb292)); clear HO297 BK291 BK292 HB; have HO297 := n0_; have BK291 := n1_; have BK292 := n2_; have HB := n3_; have BK298 := n4_; have GW298 := n5_; have GE298 := n6_; have NB291_298 := n7_; have NB298_291 := n8_; have NB292_298 := n9_; have NB298_292 := n10_; clear n0_ n1_ n2_ n3_ n4_ n5_ n6_ n7_ n8_ n9_ n10_ hb hbox hg; have hnb13 := NB298_291.out; have hnc13 := NB291_298.out; have hnb14 := NB298_292.out; have hnc14 := NB292_298.out; obtain ⟨hcz15_0, hcz15_1, hcz15_2, hfz15_0, hfz15_1, hfz15_2⟩ := blk_all3 BK298.out; obtain ⟨Ao16, co16, eo16⟩ := Kd.R_slice HO297.out; subst eo16; obtain ⟨hcz17_0, hcz17_1, hcz17_2, hfz17_0, hfz17_1, hfz17_2⟩ := blk_all3 BK291.out) | ((with_reducible refine gate_callee (f := 46) rfl ?_); refine goesL_ (some 14) rfl rfl Try.func46 (by kernel_rfl) rfl #[.agg #[.int .i64 a0_0, .int .i64 a0_1, .slice A0_2 l0_2.length c0_2], .int .i64 a1] rfl tm_ ?_; (with_reducible refine (spec_l10At.calls k a0_0 a0_1 _ _ l0_2 a1 t299 _ ?side1 ?side2 A5.out).mono ?_); (case side1 => exact Kd.C_below HR0_2.out (zb3_ HB.out GE291.out GE292.out GE298.out)); (case side2 => exact HC0_2.out); rintro e w18 ⟨rfl, hb⟩; refine ⟨_, rfl, ?_⟩; replace HO297 := As_ (Kd.R_below (rf3_ HO297.out BK298.out) hb); replace BK291 := As_ (blk_below (g := gb291) (o := .cells #[.int .i64 a0_0, .int .i64 a0_1, .slice A0_2 l0_2.length c0_2] 24 (0, 0)) (af_ NB291_298.out BK291.out) hb); replace BK292 := As_ (blk_below (g := gb292) (o := .cells #[.int .i64 0, .int .i64 0, .slice none 0 0] 24 (0, 0)) (af_ NB292_298.out BK292.out) hb); replace BK298 := As_ (blk_below (g := gb298) (o := .cells #[.int .i64 t293, .int .i64 t294, .slice Ao16 t295.length co16] 24 (0, 0)) (ap_ BK298.out) hb); replace HB := As_ (below_step (zb3_ HB.out GE291.out GE292.out GE298.out) hb); (try clear hb); (try clear hb2); (try clear hk); (try clear hi)))
  (try simp only [Act.put, List.setIfInBounds_toArray, List.set_cons_zero, List.set_cons_succ])
  go_cut [25] (fun v25 wc => ∃ (kq : Nat) (x25_5 : Bool), v25 = .bool x25_5 ∧ Aside0 (spec_Grant.j0 kq a1 a2 t299 x25_5 a0_0 a0_1 l0_2 t293 t294 t295 = some (r1, r2, r3, r4)) ∧ Aside0 (kq ≤ k) ∧ Aside0 (Kd.R k48 48 wc w.heap.size (fun _ => True) (.slice Ao16 t295.length co16) t295) ∧ Aside0 (wc.heap[gb291]? = some (.cells #[.int .i64 a0_0, .int .i64 a0_1, (.slice A0_2 l0_2.length c0_2)] 24 (0, 0))) ∧ Aside0 (wc.heap[gb292]? = some (.cells #[.int .i64 0, .int .i64 0, (.slice none 0 0)] 24 (0, 0))) ∧ Aside0 (wc.heap[gb298]? = some (.cells #[.int .i64 t293, .int .i64 t294, (.slice Ao16 t295.length co16)] 24 (0, 0))) ∧ Aside0 (Below w.heap.size w wc))
  case first =>
    have H := HC6.out
    clear HC6
    replace H := Option.bind_eq_some_iff.mp H
    obtain ⟨t300, A190, H⟩ := H
    replace H : (if t300 = true then (if a1 = 0 then (spec_Grant.j0 k a1 a2 t299 false a0_0 a0_1 l0_2 t293 t294 t295) else (spec_Grant.j0 k a1 a2 t299 (decide (t299 < 0)) a0_0 a0_1 l0_2 t293 t294 t295)) else (spec_Grant.j0 k a1 a2 t299 true a0_0 a0_1 l0_2 t293 t294 t295)) = some (r1, r2, r3, r4) := H
    have A19 := Aside0.mk A190
    clear A190
    by_cases c20 : t300 = true
    · subst c20
      have H1 : (if a1 = 0 then (spec_Grant.j0 k a1 a2 t299 false a0_0 a0_1 l0_2 t293 t294 t295) else (spec_Grant.j0 k a1 a2 t299 (decide (t299 < 0)) a0_0 a0_1 l0_2 t293 t294 t295)) = some (r1, r2, r3, r4) := by rw [if_pos rfl] at H; exact H
      clear H
      have H := H1
      clear H1
      by_cases c21 : a1 = 0
      · rw [if_pos c21] at H
        have c21b0 : (a1 == 0) = true := beq_iff_eq.mpr c21
        have c21b1 : (a1 != 0) = false := bne_eq_false_iff_eq.mpr c21
        clear c21
        (first | rw [c21b0] | (simp only [i64_w, i32_w]; rw [c21b0]) | skip)
        have H' := Aside0.mk H
        clear H
        go_wp2_with (first | ((with_reducible refine gate_callee (f := 38) rfl ?_); refine goesL_ (some 16) rfl rfl Try.func38 (by kernel_rfl) rfl #[.int .i64 a2, .int .i64 1, .int .i64 2147483647] rfl tm_ ?_; (with_reducible refine (spec_l1In.calls a2 1 2147483647 true _ A19.out).mono ?_); rintro e w' ⟨rfl, ⟨nd, rfl⟩⟩; refine ⟨_, rfl, ?_⟩))
        go_meet
        case rel => exact ⟨_, (false), (by first | rfl | (simp; done) | (simp [*]; done)), H', ⟨by first | omega | exact Nat.le_refl _⟩, ⟨rk_ HO297.out⟩, ⟨ak_ BK291.out⟩, ⟨ak_ BK292.out⟩, ⟨ak_ BK298.out⟩, ⟨zb3_ HB.out GE291.out GE292.out GE298.out⟩⟩
      · rw [if_neg c21] at H
        have c21b0 : (a1 == 0) = false := beq_eq_false_iff_ne.mpr c21
        have c21b1 : (a1 != 0) = true := bne_iff_ne.mpr c21
        (first | rw [c21b0] | (simp only [i64_w, i32_w]; rw [c21b0]) | skip)
        have H' := Aside0.mk H
        clear H
        go_wp2_with (first | ((with_reducible refine gate_callee (f := 38) rfl ?_); refine goesL_ (some 16) rfl rfl Try.func38 (by kernel_rfl) rfl #[.int .i64 a2, .int .i64 1, .int .i64 2147483647] rfl tm_ ?_; (with_reducible refine (spec_l1In.calls a2 1 2147483647 true _ A19.out).mono ?_); rintro e w' ⟨rfl, ⟨nd, rfl⟩⟩; refine ⟨_, rfl, ?_⟩))
        go_meet
        case rel => exact ⟨_, (decide (t299 < 0)), (by first | rfl | (simp; done) | (simp [*]; done)), H', ⟨by first | omega | exact Nat.le_refl _⟩, ⟨rk_ HO297.out⟩, ⟨ak_ BK291.out⟩, ⟨ak_ BK292.out⟩, ⟨ak_ BK298.out⟩, ⟨zb3_ HB.out GE291.out GE292.out GE298.out⟩⟩
    · replace c20 := Bool.eq_false_iff.mpr c20
      subst c20
      have H1 : (spec_Grant.j0 k a1 a2 t299 true a0_0 a0_1 l0_2 t293 t294 t295) = some (r1, r2, r3, r4) := by rw [if_neg (show ¬ (false = true) by decide)] at H; exact H
      clear H
      have H := H1
      clear H1
      have H' := Aside0.mk H
      clear H
      go_wp2_with (first | ((with_reducible refine gate_callee (f := 38) rfl ?_); refine goesL_ (some 16) rfl rfl Try.func38 (by kernel_rfl) rfl #[.int .i64 a2, .int .i64 1, .int .i64 2147483647] rfl tm_ ?_; (with_reducible refine (spec_l1In.calls a2 1 2147483647 false _ A19.out).mono ?_); rintro e w' ⟨rfl, ⟨nd, rfl⟩⟩; refine ⟨_, rfl, ?_⟩))
      go_meet
      case rel => exact ⟨_, (true), (by first | rfl | (simp; done) | (simp [*]; done)), H', ⟨by first | omega | exact Nat.le_refl _⟩, ⟨rk_ HO297.out⟩, ⟨ak_ BK291.out⟩, ⟨ak_ BK292.out⟩, ⟨ak_ BK298.out⟩, ⟨zb3_ HB.out GE291.out GE292.out GE298.out⟩⟩
  case rest =>
    clear HC6
    try clear c1
    try clear c2
    try clear p2
    try clear c3
    try clear c4
    try clear c9
    try clear c13
    try clear c14
    try clear c20
    try clear c21
    try clear c21b0
    try clear c21b1
    try clear hcz10_0
    try clear hcz10_1
    try clear hcz10_2
    try clear hcz15_0
    try clear hcz15_1
    try clear hcz15_2
    try clear hcz17_0
    try clear hcz17_1
    try clear hcz17_2
    try clear hfz10_0
    try clear hfz10_1
    try clear hfz10_2
    try clear hfz15_0
    try clear hfz15_1
    try clear hfz15_2
    try clear hfz17_0
    try clear hfz17_1
    try clear hfz17_2
    obtain ⟨kq, x25_5, rfl, HA, HJ5, HO_299002, BK291, BK292, BK298, HB⟩ := hcut
    cases kq with
    | zero => exact absurd HA.out (by simp [spec_Grant.j0])
    | succ kj5 =>
      have H := HA.out
      clear HA
      simp only [spec_Grant.j0] at H
      by_cases c22 : x25_5 = true
      · subst c22
        have H1 : (some (t293, t294, t295, false)) = some (r1, r2, r3, r4) := by rw [if_pos rfl] at H; exact H
        clear H
        have H := H1
        clear H1
        simp only [Option.some.injEq, Prod.mk.injEq] at H
        obtain ⟨rfl, rfl, rfl, rfl⟩ := H
        have hnb23 := NB298_291.out
        have hnc23 := NB291_298.out
        have hnb24 := NB298_292.out
        have hnc24 := NB292_298.out
        obtain ⟨hcz25_0, hcz25_1, hcz25_2, hfz25_0, hfz25_1, hfz25_2⟩ := blk_all3 BK298.out
        have hnb26 := NB292_291.out
        have hnc26 := NB291_292.out
        obtain ⟨hcz27_0, hcz27_1, hcz27_2, hfz27_0, hfz27_1, hfz27_2⟩ := blk_all3 BK292.out
        go_wp2
        refine bodyPost_ret (results_ct rfl _ _ gb292 24 #[.int .i64 t293, .int .i64 t294, .slice Ao16 t295.length co16] (0, 0) _ rfl (ap_ BK292.out) Try.underlying24 rfl (by kernel_rfl)) rfl ?_
        exact ⟨_, by first | rfl | (simp [errW_none, errW_some] <;> rfl) | (simp [*, errW_none, errW_some] <;> rfl), rt3_ HO_299002.out BK292.out, zb3_ HB.out GE291.out GE292.out GE298.out⟩
      · replace c22 := Bool.eq_false_iff.mpr c22
        subst c22
        have H1 : (if a1 = 0 then ((spec_l10Ends.f kj5 a0_0 a0_1 l0_2 (wrap64 (t293 + a2)) t294 t295 true).bind fun bt301 => (some (bt301.1, bt301.2.1, bt301.2.2.1, bt301.2.2.2))) else (if 0 ≤ t299 then (if t299 < (t295.length : Int) then ((spec_l10Ends.f kj5 a0_0 a0_1 l0_2 t293 t294 (t295.set (t299 : Int).toNat (⟨(rd_T48 t295 t299).f0, wrap64 (((rd_T48 t295 t299).f1) + a2)⟩ : S48)) true).bind fun bt309 => (some (bt309.1, bt309.2.1, bt309.2.2.1, bt309.2.2.2))) else (none)) else (none))) = some (r1, r2, r3, r4) := by rw [if_neg (show ¬ (false = true) by decide)] at H; exact H
        clear H
        have H := H1
        clear H1
        by_cases c28 : a1 = 0
        · rw [if_pos c28] at H
          have c28b0 : (a1 == 0) = true := beq_iff_eq.mpr c28
          have c28b1 : (a1 != 0) = false := bne_eq_false_iff_eq.mpr c28
          clear c28
          replace H := Option.bind_eq_some_iff.mp H
          obtain ⟨⟨t301, t302, t303, t306⟩, A290, H⟩ := H
          replace H : (some (t301, t302, t303, t306)) = some (r1, r2, r3, r4) := H
          have A29 := Aside0.mk A290
          clear A290
          simp only [Option.some.injEq, Prod.mk.injEq] at H
          obtain ⟨rfl, rfl, rfl, rfl⟩ := H
          have hnb30 := NB298_291.out
          have hnc30 := NB291_298.out
          have hnb31 := NB298_292.out
          have hnc31 := NB292_298.out
          obtain ⟨hcz32_0, hcz32_1, hcz32_2, hfz32_0, hfz32_1, hfz32_2⟩ := blk_all3 BK298.out
          go_wp2_with (first | ((with_reducible refine gate_store (t := 3) (p := 33) rfl ?_); refine store_event (t := 3) (p := 33) (v := ?vo_w33) (w1 := (wc.setCell ⟨gb298, 0, none⟩ (.int .i64 (wrap64 (t293 + a2))))) ?hg ?ho ?hn ?hr ?_; (case ho => rfl); (case hg => rfl); (case hn => rfl); (case hr => first | (go_simp; done) | (go_simp; rfl)); intro w33 hw; replace HO_299002 : Aside0 (Kd.R k48 48 w33 w.heap.size (fun _ => True) (.slice Ao16 t295.length co16) t295) := ⟨(by rw [hw]; exact (rt1_ HO_299002.out BK298.out))⟩; replace BK291 : Aside0 (w33.heap[gb291]? = some (.cells #[.int .i64 a0_0, .int .i64 a0_1, .slice A0_2 l0_2.length c0_2] 24 (0, 0))) := ⟨(by rw [hw]; exact (af_ NB291_298.out BK291.out))⟩; replace BK292 : Aside0 (w33.heap[gb292]? = some (.cells #[.int .i64 0, .int .i64 0, .slice none 0 0] 24 (0, 0))) := ⟨(by rw [hw]; exact (af_ NB292_298.out BK292.out))⟩; replace BK298 : Aside0 (w33.heap[gb298]? = some (.cells #[.int .i64 (wrap64 (t293 + a2)), .int .i64 t294, .slice Ao16 t295.length co16] 24 (0, 0))) := ⟨(by rw [hw]; exact (ap_ BK298.out))⟩; replace HB : Aside0 (Below w.heap.size w w33) := ⟨(by rw [hw]; exact (zb3_ HB.out GE291.out GE292.out GE298.out))⟩; clear hw; have hnb34 := NB291_292.out; have hnc34 := NB292_291.out; obtain ⟨hcz35_0, hcz35_1, hcz35_2, hfz35_0, hfz35_1, hfz35_2⟩ := blk_all3 BK291.out; obtain ⟨hcz36_0, hcz36_1, hcz36_2, hfz36_0, hfz36_1, hfz36_2⟩ := blk_all3 BK298.out) | ((with_reducible refine gate_callee (f := 48) rfl ?_); refine goesL_ (some 49) rfl rfl Try.func48 (by kernel_rfl) rfl #[.agg #[.int .i64 a0_0, .int .i64 a0_1, .slice A0_2 l0_2.length c0_2], .agg #[.int .i64 (wrap64 (t293 + a2)), .int .i64 t294, .slice Ao16 t295.length co16], .bool true] rfl tm_ ?_; (with_reducible refine (spec_l10Ends.calls kj5 a0_0 a0_1 _ _ l0_2 (wrap64 (t293 + a2)) t294 (fun k_ => some k_ = (.slice Ao16 t295.length co16 : Value).ownBlock) (.slice Ao16 t295.length co16) t295 true t301 t302 t303 t306 w _ ?side1 ?side2 ?side3 ?side4 A29.out).mono ?_); (case side1 => repeat (first | (with_reducible first | exact HB.out | apply bA_ | apply bN_ | apply bD_ | refine bS_ ?_ GE291.out | refine bS_ ?_ GE292.out | refine bS_ ?_ GE298.out) | exact HB.out)); (case side2 => exact Kd.C_kept_came k48_heap HR0_2.out (zb3_ HB.out GE291.out GE292.out GE298.out) (fun k_ hs_ => (fun e_ => Kd.R_base HO_299002.out k_ e_.symm) hs_)); (case side3 => exact HC0_2.out); (case side4 => exact Kd.R_tight rfl HO_299002.out); rintro e w37 ⟨v304, rfl, ho0, hb, hkp⟩; refine ⟨_, rfl, ?_⟩; replace BK291 := As_ (blk_kept (ak_ BK291.out) hkp (fun hs_ => (fun e_ => (Kd.R_ne HO_299002.out BK291.out (by decide)) e_) hs_)); replace BK292 := As_ (blk_kept (ak_ BK292.out) hkp (fun hs_ => (fun e_ => (Kd.R_ne HO_299002.out BK292.out (by decide)) e_) hs_)); replace BK298 := As_ (blk_kept (ak_ BK298.out) hkp (fun hs_ => (fun e_ => (Kd.R_ne HO_299002.out BK298.out (by decide)) e_) hs_)); have HO305 := As_ (Kd.R_mono (ok' := fun k_ => True) ho0 (fun k_ hk_ => trivial)); replace HB := As_ (hb); clear HO_299002; (try clear hb); (try clear hkp); (try clear ho0); obtain ⟨hcz38_0, hcz38_1, hcz38_2, hfz38_0, hfz38_1, hfz38_2⟩ := blk_all3 BK292.out; obtain ⟨Ao39, co39, eo39⟩ := Kd.R_slice HO305.out; subst eo39))
          refine bodyPost_ret (results_ct rfl _ _ gb292 24 #[.int .i64 t301, .int .i64 t302, .slice Ao39 t303.length co39] (0, 0) _ rfl (ap_ BK292.out) Try.underlying24 rfl (by kernel_rfl)) rfl ?_
          exact ⟨_, by first | rfl | (simp [errW_none, errW_some] <;> rfl) | (simp [*, errW_none, errW_some] <;> rfl), rt3_ HO305.out BK292.out, zb3_ HB.out GE291.out GE292.out GE298.out⟩
        · rw [if_neg c28] at H
          have c28b0 : (a1 == 0) = false := beq_eq_false_iff_ne.mpr c28
          have c28b1 : (a1 != 0) = true := bne_iff_ne.mpr c28
          by_cases c40 : 0 ≤ t299
          · rw [if_pos c40] at H
            have c40b0 : decide (0 ≤ t299) = true := decide_eq_true c40
            clear c40
            by_cases c41 : t299 < (t295.length : Int)
            · rw [if_pos c41] at H
              have c41b0 : decide (t299 < (t295.length : Int)) = true := decide_eq_true c41
              clear c41
              obtain ⟨y308, hy308⟩ : ∃ y_ : List (S48), y_ = (t295.set (t299 : Int).toNat (⟨(rd_T48 t295 t299).f0, wrap64 (((rd_T48 t295 t299).f1) + a2)⟩ : S48)) := ⟨_, rfl⟩
              replace H : ((spec_l10Ends.f kj5 a0_0 a0_1 l0_2 t293 t294 y308 true).bind fun bt309 => (some (bt309.1, bt309.2.1, bt309.2.2.1, bt309.2.2.2))) = some (r1, r2, r3, r4) := by first | (rw [hy308]; with_reducible exact H) | (have H2_ := (Option.bind_some _ _).symm.trans H; rw [hy308]; with_reducible exact H2_) | (have H2_ := (Option.bind_some _ _).symm.trans H; with_reducible exact H2_) | with_reducible exact H | (rw [hy308]; exact H) | exact H
              have Ny308 := Aside0.mk hy308
              clear hy308
              replace H := Option.bind_eq_some_iff.mp H
              obtain ⟨⟨t309, t310, t311, t314⟩, A430, H⟩ := H
              replace H : (some (t309, t310, t311, t314)) = some (r1, r2, r3, r4) := H
              have A43 := Aside0.mk A430
              clear A430
              simp only [Option.some.injEq, Prod.mk.injEq] at H
              obtain ⟨rfl, rfl, rfl, rfl⟩ := H
              try go_wp2
              replace HO_299002 := As_ (Kd.R_drew HO_299002.out)
              replace BK291 := As_ (blk_drew BK291.out)
              replace BK292 := As_ (blk_drew BK292.out)
              replace BK298 := As_ (blk_drew BK298.out)
              replace HB := As_ (below_drew1 HB.out)
              have p307 : 0 ≤ (t299 : Int) := of_decide_eq_true sm_
              have q307 : t299 < (t295.length : Int) := of_decide_eq_true sm_
              obtain ⟨ad307, e307, hx307_0, hx307_1⟩ := at_T48 (Kd.R_reads' HO_299002.out).2.2 t299 p307 q307
              cases e307
              replace p307 := eq_true p307
              replace q307 := eq_true q307
              have p42 : 0 ≤ (t299 : Int) := of_decide_eq_true sm_
              have q42 : (t299 : Int) < ((t295.length : Int) : Int) := of_decide_eq_true sm_
              obtain ⟨go42, co42, eo42, gb42, gl42, cl42, HG42⟩ := Kd.R_form HO_299002.out (by omega)
              (first | cases eo42 | (injection eo42 with ea_ en_ ec_; (first | subst ea_ | (injection ea_ with ea_; subst ea_)); subst ec_; clear en_))
              have GB42 := Aside0.mk gb42
              have GG42 := Aside0.mk HG42
              clear gb42 gl42 HG42
              (first | simp only [add_plain] at hx307_0 | skip)
              (first | simp only [add_plain] at hx307_1 | skip)
              obtain ⟨ce42, hcl42, hM42, hcc42, hfr42⟩ := Kd.R_elem HO_299002.out z48 (t299 : Int) p42 q42
              obtain rfl := k48_openM hM42
              have hx42_0 : World.cell? _ ⟨go42, (t299 : Int).toNat * 2, none⟩ = some (.int .i64 ((rd_T48 t295 t299).f0)) := hcc42 0 _ rfl
              have hx42_1 : World.cell? _ ⟨go42, (t299 : Int).toNat * 2 + 1, none⟩ = some (.int .i64 ((rd_T48 t295 t299).f1)) := hcc42 1 _ rfl
              have hf42_0 : World.frozen? _ ⟨go42, (t299 : Int).toNat * 2, none⟩ = false := hfr42 0
              have hf42_1 : World.frozen? _ ⟨go42, (t299 : Int).toNat * 2 + 1, none⟩ = false := hfr42 1
              clear hcl42 hcc42 hfr42 hM42
              replace p42 := eq_true p42
              replace q42 := eq_true q42
              obtain ⟨ce45, hcl45, hM45, hcc45, hfr45⟩ := Kd.R_elem HO_299002.out z48 (t299 : Int) (of_decide_eq_true sm_) (by have h_ : (t299 : Int) < ((t295.length : Int) : Int) := of_decide_eq_true sm_; first | exact h_ | (have e_ := (Kd.R_reads' HO_299002.out).1; omega) | simpa using h_)
              obtain rfl := k48_openM hM45
              have HP45 := (Kd.R_seg HO_299002.out (t299 : Int) (of_decide_eq_true sm_) (by have h_ : (t299 : Int) < ((t295.length : Int) : Int) := of_decide_eq_true sm_; first | exact h_ | (have e_ := (Kd.R_reads' HO_299002.out).1; omega) | simpa using h_) (seg := [.int .i64 (wrap64 (((rd_T48 t295 t299).f1) + a2))]) (j := 1) hcl45 hcc45 (show 2 ≤ 2 from by decide) (x' := (⟨(rd_T48 t295 t299).f0, wrap64 (((rd_T48 t295 t299).f1) + a2)⟩ : S48)) (k48_mkM _ _ _ (⟨(rd_T48 t295 t299).f0, wrap64 (((rd_T48 t295 t299).f1) + a2)⟩ : S48) ) (fun _ hk => hk)).1
              rw [← Ny308.out] at HP45
              have HQ45 := Aside0.mk HP45
              clear hcl45 hcc45 hfr45 hM45 HP45
              refine start_ (n := 14) (S := fun w' => w'.cell? ⟨gb298, 0, none⟩ = some (.int .i64 t293) ∧ w'.cell? ⟨gb298, 1, none⟩ = some (.int .i64 t294) ∧ w'.cell? ⟨gb298, 2, none⟩ = some (.slice (some ⟨go42, 0, none⟩) t295.length co16) ∧ w'.cell? ⟨go42, ((t299).toNat * 2), none⟩ = some (.int .i64 ((rd_T48 t295 t299).f0)) ∧ w'.cell? ⟨go42, ((t299).toNat * 2) + 1, none⟩ = some (.int .i64 ((rd_T48 t295 t299).f1))) (ds := [13]) #[false, false, false, false, false, false, false, false, false, false, false, false, false, false] (by kernel_rfl) rfl rfl ⟨(blk_cell BK298.out 0).trans rfl, (blk_cell BK298.out 1).trans rfl, (blk_cell BK298.out 2).trans rfl, hx307_0, hx307_1⟩ (fun hHeld => ?_); refine with_tabW spec_Grant.tab7 spec_Grant.bits7 (fun HT_ HW_ => ?_)
              generalize wc.drew = w44 at HO_299002 BK291 BK292 BK298 HB GG42 HQ45 hf42_0 hf42_1 hx307_0 hx307_1 hx42_0 hx42_1 hHeld ⊢
              refine pure_ (i := 0) (N := some 34) (v := ?_) (a' := ?_) #[true, false, false, false, false, false, false, false, false, false, false, false, false, false] rfl rfl (any_of HT_.out (by kernel_rfl)) (fun _ _ _ h => h) (Or.inl ⟨by rfl, ?_⟩) ?_ ?_
              rotate_left
              · intro w'
                go_simp
                with_reducible rfl
              rotate_left
              · simp only [Act.put, List.setIfInBounds_toArray, List.set_cons_zero, List.set_cons_succ, i64_w, i32_w]
                rfl
              refine pure_ (i := 2) (N := some 36) (v := ?_) (a' := ?_) #[true, false, true, false, false, false, false, false, false, false, false, false, false, false] rfl rfl (any_of HT_.out (by kernel_rfl)) (fun _ _ _ h => h) (Or.inl ⟨by rfl, ?_⟩) ?_ ?_
              rotate_left
              · intro w'
                go_simp
                with_reducible rfl
              rotate_left
              · simp only [Act.put, List.setIfInBounds_toArray, List.set_cons_zero, List.set_cons_succ, i64_w, i32_w]
                rfl
              refine pure_ (i := 3) (N := some 37) (v := ?_) (a' := ?_) #[true, false, true, true, false, false, false, false, false, false, false, false, false, false] rfl rfl (any_of HT_.out (by kernel_rfl)) (fun _ _ _ h => h) (Or.inl ⟨by rfl, ?_⟩) ?_ ?_
              rotate_left
              · intro w'
                go_simp
                with_reducible rfl
              rotate_left
              · simp only [Act.put, List.setIfInBounds_toArray, List.set_cons_zero, List.set_cons_succ, i64_w, i32_w]
                rfl
              refine pure_ (i := 5) (N := some 39) (v := ?_) (a' := ?_) #[true, false, true, true, false, true, false, false, false, false, false, false, false, false] rfl rfl (any_of HT_.out (by kernel_rfl)) (fun _ _ _ h => h) (Or.inl ⟨by rfl, ?_⟩) ?_ ?_
              rotate_left
              · intro w'
                go_simp
                with_reducible rfl
              rotate_left
              · simp only [Act.put, List.setIfInBounds_toArray, List.set_cons_zero, List.set_cons_succ, i64_w, i32_w]
                rfl
              refine pure_ (i := 9) (N := some 43) (v := ?_) (a' := ?_) #[true, false, true, true, false, true, false, false, false, true, false, false, false, false] rfl rfl (any_of HT_.out (by kernel_rfl)) (fun _ _ _ h => h) (Or.inl ⟨by rfl, ?_⟩) ?_ ?_
              rotate_left
              · intro w'
                go_simp
                with_reducible rfl
              rotate_left
              · simp only [Act.put, List.setIfInBounds_toArray, List.set_cons_zero, List.set_cons_succ, i64_w, i32_w]
                rfl
              refine take_ (i := 1) (N := some 35) (v := ?_) (a' := ?_) #[true, true, true, true, false, true, false, false, false, true, false, false, false, false] rfl rfl (take_ofW HT_.out HW_.out (by kernel_rfl)) (fun _ _ _ h => h) (Or.inl ⟨by rfl, ?_⟩) hHeld ?_ ?_
              rotate_left
              · rintro w' ⟨s0, s1, s2, s3, s4⟩
                go_simp
                with_reducible rfl
              rotate_left
              · simp only [Act.put, List.setIfInBounds_toArray, List.set_cons_zero, List.set_cons_succ, i64_w, i32_w]
                rfl
              refine take_ (i := 4) (N := some 38) (v := ?_) (a' := ?_) #[true, true, true, true, true, true, false, false, false, true, false, false, false, false] rfl rfl (take_ofW HT_.out HW_.out (by kernel_rfl)) (fun _ _ _ h => h) (Or.inl ⟨by rfl, ?_⟩) hHeld ?_ ?_
              rotate_left
              · rintro w' ⟨s0, s1, s2, s3, s4⟩
                go_simp
                with_reducible rfl
              rotate_left
              · simp only [Act.put, List.setIfInBounds_toArray, List.set_cons_zero, List.set_cons_succ, i64_w, i32_w]
                rfl
              refine pure_ (i := 6) (N := some 40) (v := ?_) (a' := ?_) #[true, true, true, true, true, true, true, false, false, true, false, false, false, false] rfl rfl (any_of HT_.out (by kernel_rfl)) (fun _ _ _ h => h) (Or.inl ⟨by rfl, ?_⟩) ?_ ?_
              rotate_left
              · intro w'
                go_simp
                with_reducible rfl
              rotate_left
              · simp only [Act.put, List.setIfInBounds_toArray, List.set_cons_zero, List.set_cons_succ, i64_w, i32_w]
                rfl
              refine pure_ (i := 7) (N := some 41) (v := ?_) (a' := ?_) #[true, true, true, true, true, true, true, true, false, true, false, false, false, false] rfl rfl (any_of HT_.out (by kernel_rfl)) (fun _ _ _ h => h) (Or.inl ⟨by rfl, ?_⟩) ?_ ?_
              rotate_left
              · intro w'
                go_simp
                with_reducible rfl
              rotate_left
              · simp only [Act.put, List.setIfInBounds_toArray, List.set_cons_zero, List.set_cons_succ, i64_w, i32_w]
                rfl
              refine take_ (i := 8) (N := some 42) (v := ?_) (a' := ?_) #[true, true, true, true, true, true, true, true, true, true, false, false, false, false] rfl rfl (take_ofW HT_.out HW_.out (by kernel_rfl)) (fun _ _ _ h => h) (Or.inl ⟨by rfl, ?_⟩) hHeld ?_ ?_
              rotate_left
              · rintro w' ⟨s0, s1, s2, s3, s4⟩
                go_simp
                with_reducible rfl
              rotate_left
              · simp only [Act.put, List.setIfInBounds_toArray, List.set_cons_zero, List.set_cons_succ, i64_w, i32_w]
                rfl
              refine pure_ (i := 10) (N := some 44) (v := ?_) (a' := ?_) #[true, true, true, true, true, true, true, true, true, true, true, false, false, false] rfl rfl (any_of HT_.out (by kernel_rfl)) (fun _ _ _ h => h) (Or.inl ⟨by rfl, ?_⟩) ?_ ?_
              rotate_left
              · intro w'
                go_simp
                with_reducible rfl
              rotate_left
              · simp only [Act.put, List.setIfInBounds_toArray, List.set_cons_zero, List.set_cons_succ, i64_w, i32_w]
                rfl
              refine pure_ (i := 11) (N := some 45) (v := ?_) (a' := ?_) #[true, true, true, true, true, true, true, true, true, true, true, true, false, false] rfl rfl (any_of HT_.out (by kernel_rfl)) (fun _ _ _ h => h) (Or.inl ⟨by rfl, ?_⟩) ?_ ?_
              rotate_left
              · intro w'
                go_simp
                with_reducible rfl
              rotate_left
              · simp only [Act.put, List.setIfInBounds_toArray, List.set_cons_zero, List.set_cons_succ, i64_w, i32_w]
                rfl
              refine pure_ (i := 12) (N := some 46) (v := ?_) (a' := ?_) #[true, true, true, true, true, true, true, true, true, true, true, true, true, false] rfl rfl (any_of HT_.out (by kernel_rfl)) (fun _ _ _ h => h) (Or.inl ⟨by rfl, ?_⟩) ?_ ?_
              rotate_left
              · intro w'
                go_simp
                with_reducible rfl
              rotate_left
              · simp only [Act.put, List.setIfInBounds_toArray, List.set_cons_zero, List.set_cons_succ, i64_w, i32_w]
                rfl
              refine last_ (i := 13) (N := none) #[true, true, true, true, true, true, true, true, true, true, true, true, true, true] rfl rfl (one_of HT_.out (by kernel_rfl)) (by decide) (fun K hK => ?_)
              refine skip_ (w1 := ?_) (by rfl) rfl ?_ ?_
              rotate_left
              · go_simp
                rfl
              refine hK.out _ _ ?_
              clear hK K
              refine done_ (done_of HT_.out (by kernel_rfl)) ?_
              have n0_ : Aside0 (Kd.R k48 48 (w44.setCell ⟨go42, (t299 : Int).toNat * 2 + 1, none⟩ (.int .i64 (wrap64 (((rd_T48 t295 t299).f1) + a2)))) w.heap.size (fun _ => True) (.slice (some ⟨go42, 0, none⟩) t295.length co16) y308) := ⟨rk_ HQ45.out⟩
              have n1_ : Aside0 ((w44.setCell ⟨go42, (t299 : Int).toNat * 2 + 1, none⟩ (.int .i64 (wrap64 (((rd_T48 t295 t299).f1) + a2)))).heap[gb291]? = some (.cells #[.int .i64 a0_0, .int .i64 a0_1, .slice A0_2 l0_2.length c0_2] 24 (0, 0))) := ⟨by (with_reducible repeat (first | apply kN_ | apply kD_ | apply kA_)); refine blk_far ?_ (by have h_ := Kd.R_ne HO_299002.out BK291.out (by decide); intro e_; exact h_ (by rw [e_]; rfl)) _; (with_reducible repeat (first | apply kN_ | apply kD_ | apply kA_)); exact BK291.out⟩
              have n2_ : Aside0 ((w44.setCell ⟨go42, (t299 : Int).toNat * 2 + 1, none⟩ (.int .i64 (wrap64 (((rd_T48 t295 t299).f1) + a2)))).heap[gb292]? = some (.cells #[.int .i64 0, .int .i64 0, .slice none 0 0] 24 (0, 0))) := ⟨by (with_reducible repeat (first | apply kN_ | apply kD_ | apply kA_)); refine blk_far ?_ (by have h_ := Kd.R_ne HO_299002.out BK292.out (by decide); intro e_; exact h_ (by rw [e_]; rfl)) _; (with_reducible repeat (first | apply kN_ | apply kD_ | apply kA_)); exact BK292.out⟩
              have n3_ : Aside0 ((w44.setCell ⟨go42, (t299 : Int).toNat * 2 + 1, none⟩ (.int .i64 (wrap64 (((rd_T48 t295 t299).f1) + a2)))).heap[gb298]? = some (.cells #[.int .i64 t293, .int .i64 t294, .slice (some ⟨go42, 0, none⟩) t295.length co16] 24 (0, 0))) := ⟨by (with_reducible repeat (first | apply kN_ | apply kD_ | apply kA_)); refine blk_far ?_ (by have h_ := Kd.R_ne HO_299002.out BK298.out (by decide); intro e_; exact h_ (by rw [e_]; rfl)) _; (with_reducible repeat (first | apply kN_ | apply kD_ | apply kA_)); exact BK298.out⟩
              have n4_ : Aside0 (Below w.heap.size w (w44.setCell ⟨go42, (t299 : Int).toNat * 2 + 1, none⟩ (.int .i64 (wrap64 (((rd_T48 t295 t299).f1) + a2))))) := ⟨zb4_ HB.out GB42.out GE291.out GE292.out GE298.out⟩
              (try clear HO_299002)
              (try clear BK291)
              (try clear BK292)
              (try clear BK298)
              (try clear HB)
              generalize (w44.setCell ⟨go42, (t299 : Int).toNat * 2 + 1, none⟩ (.int .i64 (wrap64 (((rd_T48 t295 t299).f1) + a2)))) = w46 at n0_ n1_ n2_ n3_ n4_ ⊢
              have HO_299002 := n0_
              have BK291 := n1_
              have BK292 := n2_
              have BK298 := n3_
              have HB := n4_
              clear n0_ n1_ n2_ n3_ n4_
              have hnb47 := NB291_292.out
              have hnc47 := NB292_291.out
              have hnb48 := NB291_298.out
              have hnc48 := NB298_291.out
              obtain ⟨hcz49_0, hcz49_1, hcz49_2, hfz49_0, hfz49_1, hfz49_2⟩ := blk_all3 BK291.out
              have hnb50 := NB298_292.out
              have hnc50 := NB292_298.out
              obtain ⟨hcz51_0, hcz51_1, hcz51_2, hfz51_0, hfz51_1, hfz51_2⟩ := blk_all3 BK298.out
              try go_wp2_with (first | ((with_reducible refine gate_callee (f := 48) rfl ?_); refine goesL_ (some 49) rfl rfl Try.func48 (by kernel_rfl) rfl #[.agg #[.int .i64 a0_0, .int .i64 a0_1, .slice A0_2 l0_2.length c0_2], .agg #[.int .i64 t293, .int .i64 t294, .slice (some ⟨go42, 0, none⟩) t295.length co16], .bool true] rfl tm_ ?_; (with_reducible refine (spec_l10Ends.calls kj5 a0_0 a0_1 _ _ l0_2 t293 t294 (fun k_ => some k_ = (.slice (some ⟨go42, 0, none⟩) t295.length co16 : Value).ownBlock) (.slice (some ⟨go42, 0, none⟩) t295.length co16) y308 true t309 t310 t311 t314 w _ ?side1 ?side2 ?side3 ?side4 A43.out).mono ?_); (case side1 => repeat (first | (with_reducible first | exact HB.out | apply bA_ | apply bN_ | apply bD_ | refine bS_ ?_ GE291.out | refine bS_ ?_ GE292.out | refine bS_ ?_ GE298.out) | exact HB.out)); (case side2 => exact Kd.C_kept_came k48_heap HR0_2.out (zb3_ HB.out GE291.out GE292.out GE298.out) (fun k_ hs_ => (fun e_ => Kd.R_base HO_299002.out k_ e_.symm) hs_)); (case side3 => exact HC0_2.out); (case side4 => exact Kd.R_tight rfl HO_299002.out); rintro e w52 ⟨v312, rfl, ho0, hb, hkp⟩; refine ⟨_, rfl, ?_⟩; replace BK291 := As_ (blk_kept (ak_ BK291.out) hkp (fun hs_ => (fun e_ => (Kd.R_ne HO_299002.out BK291.out (by decide)) e_) hs_)); replace BK292 := As_ (blk_kept (ak_ BK292.out) hkp (fun hs_ => (fun e_ => (Kd.R_ne HO_299002.out BK292.out (by decide)) e_) hs_)); replace BK298 := As_ (blk_kept (ak_ BK298.out) hkp (fun hs_ => (fun e_ => (Kd.R_ne HO_299002.out BK298.out (by decide)) e_) hs_)); have HO313 := As_ (Kd.R_mono (ok' := fun k_ => True) ho0 (fun k_ hk_ => trivial)); replace HB := As_ (hb); clear HO_299002; (try clear hb); (try clear hkp); (try clear ho0); obtain ⟨hcz53_0, hcz53_1, hcz53_2, hfz53_0, hfz53_1, hfz53_2⟩ := blk_all3 BK292.out; obtain ⟨Ao54, co54, eo54⟩ := Kd.R_slice HO313.out; subst eo54))
              refine bodyPost_ret (results_ct rfl _ _ gb292 24 #[.int .i64 t309, .int .i64 t310, .slice Ao54 t311.length co54] (0, 0) _ rfl (ap_ BK292.out) Try.underlying24 rfl (by kernel_rfl)) rfl ?_
              exact ⟨_, by first | rfl | (simp [errW_none, errW_some] <;> rfl) | (simp [*, errW_none, errW_some] <;> rfl), rt3_ HO313.out BK292.out, zb3_ HB.out GE291.out GE292.out GE298.out⟩
            · rw [if_neg c41] at H
              exact absurd H (by simp)
          · rw [if_neg c40] at H
            exact absurd H (by simp)

/-! ### spec_RoomOf: function 22 -/
def spec_RoomOf.f (k : Nat) (a0_0 : Int) (a0_1 : Int) (l0_2 : List (S48)) (a1 : Int) : Option (Int) := (spec_l10At.f k a0_0 a0_1 l0_2 a1).bind fun t316 => (if t316 < 0 then (some 0) else (if 0 ≤ t316 then (if t316 < (l0_2.length : Int) then (if ((rd_T48 l0_2 t316).f1) < a0_0 then (if ((rd_T48 l0_2 t316).f1) < 0 then (some 0) else (some ((rd_T48 l0_2 t316).f1))) else (if a0_0 < 0 then (some 0) else (some a0_0))) else (none)) else (none)))
theorem spec_RoomOf.mono : ∀ a0 a1 a2 a3 k, LeO (spec_RoomOf.f k a0 a1 a2 a3) (spec_RoomOf.f (k + 1) a0 a1 a2 a3) := by
  intro a0 a1 a2 a3 k
  unfold spec_RoomOf.f
  repeat' first
      | (with_reducible exact spec_l10At.mono _ _ _ _ _)
      | (with_reducible exact LeO.refl _)
      | (with_reducible exact LeO.none _)
      | (with_reducible refine LeO.ite ?_ ?_)
      | (with_reducible refine LeO.bind ?_ (fun _ => ?_))
      | exact spec_l10At.mono _ _ _ _ _
      | exact LeO.none _
      | refine LeO.ite ?_ ?_
      | refine LeO.bind ?_ (fun _ => ?_)
set_option maxHeartbeats 8000000 in
set_option maxRecDepth 100000 in
theorem spec_RoomOf.calls (k : Nat) (a0_0 : Int) (a0_1 : Int) (A0_2 : Option Addr) (c0_2 : Nat) (l0_2 : List (S48)) (a1 : Int) (r : Int) (w : World) (hr0_2 : Kd.C k48 w A0_2 l0_2.length l0_2) (hc0_2 : l0_2.length ≤ c0_2) (h : spec_RoomOf.f k a0_0 a0_1 l0_2 a1 = some r) :
    Calls Try.prog 22 #[.agg #[.int .i64 a0_0, .int .i64 a0_1, .slice A0_2 l0_2.length c0_2], .int .i64 a1] w fun e w' => e = .returned (.int .i64 r) ∧ Below w.heap.size w w' := by
  have hu24 := Try.underlying24
  have HR0_2 := Aside0.mk hr0_2
  have HC0_2 := Aside0.mk hc0_2
  clear hr0_2 hc0_2
  have HB := As_ (Below.refl w.heap.size w)
  have H : ((spec_l10At.f k a0_0 a0_1 l0_2 a1).bind fun t316 => (if t316 < 0 then (some 0) else (if 0 ≤ t316 then (if t316 < (l0_2.length : Int) then (if ((rd_T48 l0_2 t316).f1) < a0_0 then (if ((rd_T48 l0_2 t316).f1) < 0 then (some 0) else (some ((rd_T48 l0_2 t316).f1))) else (if a0_0 < 0 then (some 0) else (some a0_0))) else (none)) else (none)))) = some r := h
  clear h
  replace H := Option.bind_eq_some_iff.mp H
  obtain ⟨t316, A30, H⟩ := H
  replace H : (if t316 < 0 then (some 0) else (if 0 ≤ t316 then (if t316 < (l0_2.length : Int) then (if ((rd_T48 l0_2 t316).f1) < a0_0 then (if ((rd_T48 l0_2 t316).f1) < 0 then (some 0) else (some ((rd_T48 l0_2 t316).f1))) else (if a0_0 < 0 then (some 0) else (some a0_0))) else (none)) else (none))) = some r := H
  have A3 := Aside0.mk A30
  clear A30
  by_cases c4 : t316 < 0
  · rw [if_pos c4] at H
    have c4b0 : decide (t316 < 0) = true := decide_eq_true c4
    clear c4
    obtain rfl := Option.some.inj H
    go_enter Try.func22, Try.ntmps22
    go_wp2_with (first | ((with_reducible refine gate_dst (N := 2) rfl ?_); refine box_event ?hg (N := 2) ?hd (cs := #[.int .i64 a0_0, .int .i64 a0_1, .slice A0_2 l0_2.length c0_2]) (t := 24) ?hr ?_; (case hd => rfl); (case hg => rfl); (case hr => first | (go_simp; done) | (go_simp; rfl)); intro gb315 hg w5 hbox hb; have n0_ := As_ (below_step (zb0_ HB.out) hb); have n1_ := As_ (hbox); have n2_ := As_ ((sb_ hg (zb0_ HB.out) : w.heap.size ≤ gb315)); have n3_ := As_ ((sb_ hg (zb0_ HB.out) : w.heap.size ≤ gb315)); clear HB; have HB := n0_; have BK315 := n1_; have GW315 := n2_; have GE315 := n3_; clear n0_ n1_ n2_ n3_ hb hbox hg; obtain ⟨hcz6_0, hcz6_1, hcz6_2, hfz6_0, hfz6_1, hfz6_2⟩ := blk_all3 BK315.out) | ((with_reducible refine gate_callee (f := 46) rfl ?_); refine goesL_ (some 9) rfl rfl Try.func46 (by kernel_rfl) rfl #[.agg #[.int .i64 a0_0, .int .i64 a0_1, .slice A0_2 l0_2.length c0_2], .int .i64 a1] rfl tm_ ?_; (with_reducible refine (spec_l10At.calls k a0_0 a0_1 _ _ l0_2 a1 t316 _ ?side1 ?side2 A3.out).mono ?_); (case side1 => repeat (first | exact (Kd.C_below HR0_2.out HB.out) | (with_reducible first | apply cA_ | apply cN_ | apply cD_))); (case side2 => exact HC0_2.out); rintro e w7 ⟨rfl, hb⟩; refine ⟨_, rfl, ?_⟩; replace BK315 := As_ (blk_below (g := gb315) (o := .cells #[.int .i64 a0_0, .int .i64 a0_1, .slice A0_2 l0_2.length c0_2] 24 (0, 0)) (ak_ BK315.out) hb); replace HB := As_ (below_step (zb1_ HB.out GE315.out) hb); (try clear hb); (try clear hb2); (try clear hk); (try clear hi)))
    go_ret
    exact ⟨by first | rfl | (simp [errW_none, errW_some] <;> rfl) | (simp [*, errW_none, errW_some] <;> rfl), zb1_ HB.out GE315.out⟩
  · rw [if_neg c4] at H
    have c4b0 : decide (t316 < 0) = false := decide_eq_false c4
    clear c4
    by_cases c8 : 0 ≤ t316
    · rw [if_pos c8] at H
      have c8b0 : decide (0 ≤ t316) = true := decide_eq_true c8
      clear c8
      by_cases c9 : t316 < (l0_2.length : Int)
      · rw [if_pos c9] at H
        have c9b0 : decide (t316 < (l0_2.length : Int)) = true := decide_eq_true c9
        clear c9
        by_cases c10 : ((rd_T48 l0_2 t316).f1) < a0_0
        · rw [if_pos c10] at H
          have c10b0 : decide (((rd_T48 l0_2 t316).f1) < a0_0) = true := decide_eq_true c10
          clear c10
          by_cases c11 : ((rd_T48 l0_2 t316).f1) < 0
          · rw [if_pos c11] at H
            have c11b0 : decide (((rd_T48 l0_2 t316).f1) < 0) = true := decide_eq_true c11
            clear c11
            obtain rfl := Option.some.inj H
            go_enter Try.func22, Try.ntmps22
            go_wp2_with (first | ((with_reducible refine gate_dst (N := 2) rfl ?_); refine box_event ?hg (N := 2) ?hd (cs := #[.int .i64 a0_0, .int .i64 a0_1, .slice A0_2 l0_2.length c0_2]) (t := 24) ?hr ?_; (case hd => rfl); (case hg => rfl); (case hr => first | (go_simp; done) | (go_simp; rfl)); intro gb315 hg w12 hbox hb; have n0_ := As_ (below_step (zb0_ HB.out) hb); have n1_ := As_ (hbox); have n2_ := As_ ((sb_ hg (zb0_ HB.out) : w.heap.size ≤ gb315)); have n3_ := As_ ((sb_ hg (zb0_ HB.out) : w.heap.size ≤ gb315)); clear HB; have HB := n0_; have BK315 := n1_; have GW315 := n2_; have GE315 := n3_; clear n0_ n1_ n2_ n3_ hb hbox hg; obtain ⟨hcz13_0, hcz13_1, hcz13_2, hfz13_0, hfz13_1, hfz13_2⟩ := blk_all3 BK315.out) | ((with_reducible refine gate_callee (f := 46) rfl ?_); refine goesL_ (some 9) rfl rfl Try.func46 (by kernel_rfl) rfl #[.agg #[.int .i64 a0_0, .int .i64 a0_1, .slice A0_2 l0_2.length c0_2], .int .i64 a1] rfl tm_ ?_; (with_reducible refine (spec_l10At.calls k a0_0 a0_1 _ _ l0_2 a1 t316 _ ?side1 ?side2 A3.out).mono ?_); (case side1 => repeat (first | exact (Kd.C_below HR0_2.out HB.out) | (with_reducible first | apply cA_ | apply cN_ | apply cD_))); (case side2 => exact HC0_2.out); rintro e w14 ⟨rfl, hb⟩; refine ⟨_, rfl, ?_⟩; replace BK315 := As_ (blk_below (g := gb315) (o := .cells #[.int .i64 a0_0, .int .i64 a0_1, .slice A0_2 l0_2.length c0_2] 24 (0, 0)) (ak_ BK315.out) hb); replace HB := As_ (below_step (zb1_ HB.out GE315.out) hb); (try clear hb); (try clear hb2); (try clear hk); (try clear hi); obtain ⟨hcz15_0, hcz15_1, hcz15_2, hfz15_0, hfz15_1, hfz15_2⟩ := blk_all3 BK315.out; have p317 : 0 ≤ (t316 : Int) := of_decide_eq_true sm_; have q317 : t316 < (l0_2.length : Int) := of_decide_eq_true sm_; obtain ⟨ad317, e317, hx317_0, hx317_1⟩ := at_T48 HR0_2.out t316 p317 q317; cases e317; replace hx317_0 := (HB.out.cell (World.block_lt_of_cell? w _ hx317_0)).trans hx317_0; replace hx317_1 := (HB.out.cell (World.block_lt_of_cell? w _ hx317_1)).trans hx317_1; replace p317 := eq_true p317; replace q317 := eq_true q317; have p318 : 0 ≤ (t316 : Int) := of_decide_eq_true sm_; have q318 : t316 < (l0_2.length : Int) := of_decide_eq_true sm_; obtain ⟨ad318, e318, hx318_0, hx318_1⟩ := at_T48 HR0_2.out t316 p318 q318; obtain rfl : ad317 = ad318 := (by injection e318); replace hx318_0 := (HB.out.cell (World.block_lt_of_cell? w _ hx318_0)).trans hx318_0; replace hx318_1 := (HB.out.cell (World.block_lt_of_cell? w _ hx318_1)).trans hx318_1; replace p318 := eq_true p318; replace q318 := eq_true q318))
            go_ret
            exact ⟨by first | rfl | (simp [errW_none, errW_some] <;> rfl) | (simp [*, errW_none, errW_some] <;> rfl), zb1_ HB.out GE315.out⟩
          · rw [if_neg c11] at H
            have c11b0 : decide (((rd_T48 l0_2 t316).f1) < 0) = false := decide_eq_false c11
            clear c11
            obtain rfl := Option.some.inj H
            go_enter Try.func22, Try.ntmps22
            go_wp2_with (first | ((with_reducible refine gate_dst (N := 2) rfl ?_); refine box_event ?hg (N := 2) ?hd (cs := #[.int .i64 a0_0, .int .i64 a0_1, .slice A0_2 l0_2.length c0_2]) (t := 24) ?hr ?_; (case hd => rfl); (case hg => rfl); (case hr => first | (go_simp; done) | (go_simp; rfl)); intro gb315 hg w16 hbox hb; have n0_ := As_ (below_step (zb0_ HB.out) hb); have n1_ := As_ (hbox); have n2_ := As_ ((sb_ hg (zb0_ HB.out) : w.heap.size ≤ gb315)); have n3_ := As_ ((sb_ hg (zb0_ HB.out) : w.heap.size ≤ gb315)); clear HB; have HB := n0_; have BK315 := n1_; have GW315 := n2_; have GE315 := n3_; clear n0_ n1_ n2_ n3_ hb hbox hg; obtain ⟨hcz17_0, hcz17_1, hcz17_2, hfz17_0, hfz17_1, hfz17_2⟩ := blk_all3 BK315.out) | ((with_reducible refine gate_callee (f := 46) rfl ?_); refine goesL_ (some 9) rfl rfl Try.func46 (by kernel_rfl) rfl #[.agg #[.int .i64 a0_0, .int .i64 a0_1, .slice A0_2 l0_2.length c0_2], .int .i64 a1] rfl tm_ ?_; (with_reducible refine (spec_l10At.calls k a0_0 a0_1 _ _ l0_2 a1 t316 _ ?side1 ?side2 A3.out).mono ?_); (case side1 => repeat (first | exact (Kd.C_below HR0_2.out HB.out) | (with_reducible first | apply cA_ | apply cN_ | apply cD_))); (case side2 => exact HC0_2.out); rintro e w18 ⟨rfl, hb⟩; refine ⟨_, rfl, ?_⟩; replace BK315 := As_ (blk_below (g := gb315) (o := .cells #[.int .i64 a0_0, .int .i64 a0_1, .slice A0_2 l0_2.length c0_2] 24 (0, 0)) (ak_ BK315.out) hb); replace HB := As_ (below_step (zb1_ HB.out GE315.out) hb); (try clear hb); (try clear hb2); (try clear hk); (try clear hi); obtain ⟨hcz19_0, hcz19_1, hcz19_2, hfz19_0, hfz19_1, hfz19_2⟩ := blk_all3 BK315.out; have p317 : 0 ≤ (t316 : Int) := of_decide_eq_true sm_; have q317 : t316 < (l0_2.length : Int) := of_decide_eq_true sm_; obtain ⟨ad317, e317, hx317_0, hx317_1⟩ := at_T48 HR0_2.out t316 p317 q317; cases e317; replace hx317_0 := (HB.out.cell (World.block_lt_of_cell? w _ hx317_0)).trans hx317_0; replace hx317_1 := (HB.out.cell (World.block_lt_of_cell? w _ hx317_1)).trans hx317_1; replace p317 := eq_true p317; replace q317 := eq_true q317; have p318 : 0 ≤ (t316 : Int) := of_decide_eq_true sm_; have q318 : t316 < (l0_2.length : Int) := of_decide_eq_true sm_; obtain ⟨ad318, e318, hx318_0, hx318_1⟩ := at_T48 HR0_2.out t316 p318 q318; obtain rfl : ad317 = ad318 := (by injection e318); replace hx318_0 := (HB.out.cell (World.block_lt_of_cell? w _ hx318_0)).trans hx318_0; replace hx318_1 := (HB.out.cell (World.block_lt_of_cell? w _ hx318_1)).trans hx318_1; replace p318 := eq_true p318; replace q318 := eq_true q318))
            go_ret
            exact ⟨by first | rfl | (simp [errW_none, errW_some] <;> rfl) | (simp [*, errW_none, errW_some] <;> rfl), zb1_ HB.out GE315.out⟩
        · rw [if_neg c10] at H
          have c10b0 : decide (((rd_T48 l0_2 t316).f1) < a0_0) = false := decide_eq_false c10
          clear c10
          by_cases c20 : a0_0 < 0
          · rw [if_pos c20] at H
            have c20b0 : decide (a0_0 < 0) = true := decide_eq_true c20
            clear c20
            obtain rfl := Option.some.inj H
            go_enter Try.func22, Try.ntmps22
            go_wp2_with (first | ((with_reducible refine gate_dst (N := 2) rfl ?_); refine box_event ?hg (N := 2) ?hd (cs := #[.int .i64 a0_0, .int .i64 a0_1, .slice A0_2 l0_2.length c0_2]) (t := 24) ?hr ?_; (case hd => rfl); (case hg => rfl); (case hr => first | (go_simp; done) | (go_simp; rfl)); intro gb315 hg w21 hbox hb; have n0_ := As_ (below_step (zb0_ HB.out) hb); have n1_ := As_ (hbox); have n2_ := As_ ((sb_ hg (zb0_ HB.out) : w.heap.size ≤ gb315)); have n3_ := As_ ((sb_ hg (zb0_ HB.out) : w.heap.size ≤ gb315)); clear HB; have HB := n0_; have BK315 := n1_; have GW315 := n2_; have GE315 := n3_; clear n0_ n1_ n2_ n3_ hb hbox hg; obtain ⟨hcz22_0, hcz22_1, hcz22_2, hfz22_0, hfz22_1, hfz22_2⟩ := blk_all3 BK315.out) | ((with_reducible refine gate_callee (f := 46) rfl ?_); refine goesL_ (some 9) rfl rfl Try.func46 (by kernel_rfl) rfl #[.agg #[.int .i64 a0_0, .int .i64 a0_1, .slice A0_2 l0_2.length c0_2], .int .i64 a1] rfl tm_ ?_; (with_reducible refine (spec_l10At.calls k a0_0 a0_1 _ _ l0_2 a1 t316 _ ?side1 ?side2 A3.out).mono ?_); (case side1 => repeat (first | exact (Kd.C_below HR0_2.out HB.out) | (with_reducible first | apply cA_ | apply cN_ | apply cD_))); (case side2 => exact HC0_2.out); rintro e w23 ⟨rfl, hb⟩; refine ⟨_, rfl, ?_⟩; replace BK315 := As_ (blk_below (g := gb315) (o := .cells #[.int .i64 a0_0, .int .i64 a0_1, .slice A0_2 l0_2.length c0_2] 24 (0, 0)) (ak_ BK315.out) hb); replace HB := As_ (below_step (zb1_ HB.out GE315.out) hb); (try clear hb); (try clear hb2); (try clear hk); (try clear hi); obtain ⟨hcz24_0, hcz24_1, hcz24_2, hfz24_0, hfz24_1, hfz24_2⟩ := blk_all3 BK315.out; have p317 : 0 ≤ (t316 : Int) := of_decide_eq_true sm_; have q317 : t316 < (l0_2.length : Int) := of_decide_eq_true sm_; obtain ⟨ad317, e317, hx317_0, hx317_1⟩ := at_T48 HR0_2.out t316 p317 q317; cases e317; replace hx317_0 := (HB.out.cell (World.block_lt_of_cell? w _ hx317_0)).trans hx317_0; replace hx317_1 := (HB.out.cell (World.block_lt_of_cell? w _ hx317_1)).trans hx317_1; replace p317 := eq_true p317; replace q317 := eq_true q317))
            go_ret
            exact ⟨by first | rfl | (simp [errW_none, errW_some] <;> rfl) | (simp [*, errW_none, errW_some] <;> rfl), zb1_ HB.out GE315.out⟩
          · rw [if_neg c20] at H
            have c20b0 : decide (a0_0 < 0) = false := decide_eq_false c20
            clear c20
            obtain rfl := Option.some.inj H
            go_enter Try.func22, Try.ntmps22
            go_wp2_with (first | ((with_reducible refine gate_dst (N := 2) rfl ?_); refine box_event ?hg (N := 2) ?hd (cs := #[.int .i64 a0_0, .int .i64 a0_1, .slice A0_2 l0_2.length c0_2]) (t := 24) ?hr ?_; (case hd => rfl); (case hg => rfl); (case hr => first | (go_simp; done) | (go_simp; rfl)); intro gb315 hg w25 hbox hb; have n0_ := As_ (below_step (zb0_ HB.out) hb); have n1_ := As_ (hbox); have n2_ := As_ ((sb_ hg (zb0_ HB.out) : w.heap.size ≤ gb315)); have n3_ := As_ ((sb_ hg (zb0_ HB.out) : w.heap.size ≤ gb315)); clear HB; have HB := n0_; have BK315 := n1_; have GW315 := n2_; have GE315 := n3_; clear n0_ n1_ n2_ n3_ hb hbox hg; obtain ⟨hcz26_0, hcz26_1, hcz26_2, hfz26_0, hfz26_1, hfz26_2⟩ := blk_all3 BK315.out) | ((with_reducible refine gate_callee (f := 46) rfl ?_); refine goesL_ (some 9) rfl rfl Try.func46 (by kernel_rfl) rfl #[.agg #[.int .i64 a0_0, .int .i64 a0_1, .slice A0_2 l0_2.length c0_2], .int .i64 a1] rfl tm_ ?_; (with_reducible refine (spec_l10At.calls k a0_0 a0_1 _ _ l0_2 a1 t316 _ ?side1 ?side2 A3.out).mono ?_); (case side1 => repeat (first | exact (Kd.C_below HR0_2.out HB.out) | (with_reducible first | apply cA_ | apply cN_ | apply cD_))); (case side2 => exact HC0_2.out); rintro e w27 ⟨rfl, hb⟩; refine ⟨_, rfl, ?_⟩; replace BK315 := As_ (blk_below (g := gb315) (o := .cells #[.int .i64 a0_0, .int .i64 a0_1, .slice A0_2 l0_2.length c0_2] 24 (0, 0)) (ak_ BK315.out) hb); replace HB := As_ (below_step (zb1_ HB.out GE315.out) hb); (try clear hb); (try clear hb2); (try clear hk); (try clear hi); obtain ⟨hcz28_0, hcz28_1, hcz28_2, hfz28_0, hfz28_1, hfz28_2⟩ := blk_all3 BK315.out; have p317 : 0 ≤ (t316 : Int) := of_decide_eq_true sm_; have q317 : t316 < (l0_2.length : Int) := of_decide_eq_true sm_; obtain ⟨ad317, e317, hx317_0, hx317_1⟩ := at_T48 HR0_2.out t316 p317 q317; cases e317; replace hx317_0 := (HB.out.cell (World.block_lt_of_cell? w _ hx317_0)).trans hx317_0; replace hx317_1 := (HB.out.cell (World.block_lt_of_cell? w _ hx317_1)).trans hx317_1; replace p317 := eq_true p317; replace q317 := eq_true q317))
            go_ret
            exact ⟨by first | rfl | (simp [errW_none, errW_some] <;> rfl) | (simp [*, errW_none, errW_some] <;> rfl), zb1_ HB.out GE315.out⟩
      · rw [if_neg c9] at H
        exact absurd H (by simp)
    · rw [if_neg c8] at H
      exact absurd H (by simp)

/-! ### spec_Spend: function 30 -/
def spec_Spend.f (k : Nat) (a0_0 : Int) (a0_1 : Int) (l0_2 : List (S48)) (a1 : Int) (a2 : Int) : Option (Int × Int × (List (S48)) × Bool) := (spec_l10Copy.f a0_0 a0_1 l0_2).bind fun bt321 => ((spec_l10At.f k a0_0 a0_1 l0_2 a1).bind fun t327 => (if t327 < 0 then (some (bt321.1, bt321.2.1, bt321.2.2, false)) else ((spec_RoomOf.f k a0_0 a0_1 l0_2 a1).bind fun t328 => ((spec_l1In.f a2 0 t328).bind fun t329 => (if t329 = true then (if 0 ≤ t327 then (if t327 < (bt321.2.2.length : Int) then ((spec_l10Ends.f k a0_0 a0_1 l0_2 (wrap64 (bt321.1 - a2)) bt321.2.1 (bt321.2.2.set (t327 : Int).toNat (⟨(rd_T48 bt321.2.2 t327).f0, wrap64 (((rd_T48 bt321.2.2 t327).f1) - a2)⟩ : S48)) true).bind fun bt332 => (some (bt332.1, bt332.2.1, bt332.2.2.1, bt332.2.2.2))) else (none)) else (none)) else (some (bt321.1, bt321.2.1, bt321.2.2, false)))))))
theorem spec_Spend.mono : ∀ a0 a1 a2 a3 a4 k, LeO (spec_Spend.f k a0 a1 a2 a3 a4) (spec_Spend.f (k + 1) a0 a1 a2 a3 a4) := by
  intro a0 a1 a2 a3 a4 k
  unfold spec_Spend.f
  repeat' first
      | (with_reducible exact spec_RoomOf.mono _ _ _ _ _)
      | (with_reducible exact spec_l10At.mono _ _ _ _ _)
      | (with_reducible exact spec_l10Ends.mono _ _ _ _ _ _ _ _)
      | (with_reducible exact LeO.refl _)
      | (with_reducible exact LeO.none _)
      | (with_reducible refine LeO.ite ?_ ?_)
      | (with_reducible refine LeO.bind ?_ (fun _ => ?_))
      | exact spec_RoomOf.mono _ _ _ _ _
      | exact spec_l10At.mono _ _ _ _ _
      | exact spec_l10Ends.mono _ _ _ _ _ _ _ _
      | exact LeO.none _
      | refine LeO.ite ?_ ?_
      | refine LeO.bind ?_ (fun _ => ?_)
def spec_Spend.T6 : Bool × List (List Nat × List Nat) := (true, [([], []), ([0], [0]), ([], []), ([], []), ([3], [3]), ([], []), ([4, 5], [4, 5]), ([6], [6]), ([7], [7]), ([], []), ([8, 9], [8, 9]), ([1, 2, 0, 1, 2, 3, 4, 5, 6, 7, 8, 9, 10], [1, 2]), ([11, 0, 1, 2, 3, 4, 5, 6, 7, 8, 9, 10], [11]), ([12, 10, 0, 1, 2, 3, 4, 5, 6, 7, 8, 9, 10], [10, 12])])
def spec_Spend.B6 : List Nat := [0, 1, 0, 0, 8, 0, 56, 120, 248, 0, 1016, 2047, 4095, 8191]
theorem spec_Spend.tab6 : rtab .any (opsOf Try.f30 6) = spec_Spend.T6 := by kernel_rfl
theorem spec_Spend.bits6 : waitsOk spec_Spend.T6.2 spec_Spend.B6 = true := by kernel_rfl
set_option maxHeartbeats 8000000 in
set_option maxRecDepth 100000 in
theorem spec_Spend.calls (k : Nat) (a0_0 : Int) (a0_1 : Int) (A0_2 : Option Addr) (c0_2 : Nat) (l0_2 : List (S48)) (a1 : Int) (a2 : Int) (r1 : Int) (r2 : Int) (r3 : List (S48)) (r4 : Bool) (w : World) (hr0_2 : Kd.C k48 w A0_2 l0_2.length l0_2) (hc0_2 : l0_2.length ≤ c0_2) (h : spec_Spend.f k a0_0 a0_1 l0_2 a1 a2 = some (r1, r2, r3, r4)) :
    Calls Try.prog 30 #[.agg #[.int .i64 a0_0, .int .i64 a0_1, .slice A0_2 l0_2.length c0_2], .int .i64 a1, .int .i64 a2] w fun e w' => ∃ v2_ : Value, e = .returned (.tuple #[.agg #[.int .i64 r1, .int .i64 r2, v2_], .bool r4]) ∧ Kd.R k48 48 w' w.heap.size (fun _ => True) v2_ r3 ∧ Below w.heap.size w w' := by
  have hu24 := Try.underlying24
  have HR0_2 := Aside0.mk hr0_2
  have HC0_2 := Aside0.mk hc0_2
  clear hr0_2 hc0_2
  have HB := As_ (Below.refl w.heap.size w)
  have H : ((spec_l10Copy.f a0_0 a0_1 l0_2).bind fun bt321 => ((spec_l10At.f k a0_0 a0_1 l0_2 a1).bind fun t327 => (if t327 < 0 then (some (bt321.1, bt321.2.1, bt321.2.2, false)) else ((spec_RoomOf.f k a0_0 a0_1 l0_2 a1).bind fun t328 => ((spec_l1In.f a2 0 t328).bind fun t329 => (if t329 = true then (if 0 ≤ t327 then (if t327 < (bt321.2.2.length : Int) then ((spec_l10Ends.f k a0_0 a0_1 l0_2 (wrap64 (bt321.1 - a2)) bt321.2.1 (bt321.2.2.set (t327 : Int).toNat (⟨(rd_T48 bt321.2.2 t327).f0, wrap64 (((rd_T48 bt321.2.2 t327).f1) - a2)⟩ : S48)) true).bind fun bt332 => (some (bt332.1, bt332.2.1, bt332.2.2.1, bt332.2.2.2))) else (none)) else (none)) else (some (bt321.1, bt321.2.1, bt321.2.2, false)))))))) = some (r1, r2, r3, r4) := h
  clear h
  replace H := Option.bind_eq_some_iff.mp H
  obtain ⟨⟨t321, t322, t323⟩, A40, H⟩ := H
  replace H : ((spec_l10At.f k a0_0 a0_1 l0_2 a1).bind fun t327 => (if t327 < 0 then (some (t321, t322, t323, false)) else ((spec_RoomOf.f k a0_0 a0_1 l0_2 a1).bind fun t328 => ((spec_l1In.f a2 0 t328).bind fun t329 => (if t329 = true then (if 0 ≤ t327 then (if t327 < (t323.length : Int) then ((spec_l10Ends.f k a0_0 a0_1 l0_2 (wrap64 (t321 - a2)) t322 (t323.set (t327 : Int).toNat (⟨(rd_T48 t323 t327).f0, wrap64 (((rd_T48 t323 t327).f1) - a2)⟩ : S48)) true).bind fun bt332 => (some (bt332.1, bt332.2.1, bt332.2.2.1, bt332.2.2.2))) else (none)) else (none)) else (some (t321, t322, t323, false))))))) = some (r1, r2, r3, r4) := H
  have A4 := Aside0.mk A40
  clear A40
  replace H := Option.bind_eq_some_iff.mp H
  obtain ⟨t327, A50, H⟩ := H
  replace H : (if t327 < 0 then (some (t321, t322, t323, false)) else ((spec_RoomOf.f k a0_0 a0_1 l0_2 a1).bind fun t328 => ((spec_l1In.f a2 0 t328).bind fun t329 => (if t329 = true then (if 0 ≤ t327 then (if t327 < (t323.length : Int) then ((spec_l10Ends.f k a0_0 a0_1 l0_2 (wrap64 (t321 - a2)) t322 (t323.set (t327 : Int).toNat (⟨(rd_T48 t323 t327).f0, wrap64 (((rd_T48 t323 t327).f1) - a2)⟩ : S48)) true).bind fun bt332 => (some (bt332.1, bt332.2.1, bt332.2.2.1, bt332.2.2.2))) else (none)) else (none)) else (some (t321, t322, t323, false)))))) = some (r1, r2, r3, r4) := H
  have A5 := Aside0.mk A50
  clear A50
  by_cases c6 : t327 < 0
  · rw [if_pos c6] at H
    have c6b0 : decide (t327 < 0) = true := decide_eq_true c6
    clear c6
    simp only [Option.some.injEq, Prod.mk.injEq] at H
    obtain ⟨rfl, rfl, rfl, rfl⟩ := H
    go_enter Try.func30, Try.ntmps30
    go_wp2_with (first | ((with_reducible refine gate_dst (N := 3) rfl ?_); refine box_event ?hg (N := 3) ?hd (cs := #[.int .i64 a0_0, .int .i64 a0_1, .slice A0_2 l0_2.length c0_2]) (t := 24) ?hr ?_; (case hd => rfl); (case hg => rfl); (case hr => first | (go_simp; done) | (go_simp; rfl)); intro gb319 hg w7 hbox hb; have n0_ := As_ (below_step (zb0_ HB.out) hb); have n1_ := As_ (hbox); have n2_ := As_ ((sb_ hg (zb0_ HB.out) : w.heap.size ≤ gb319)); have n3_ := As_ ((sb_ hg (zb0_ HB.out) : w.heap.size ≤ gb319)); clear HB; have HB := n0_; have BK319 := n1_; have GW319 := n2_; have GE319 := n3_; clear n0_ n1_ n2_ n3_ hb hbox hg) | ((with_reducible refine gate_dst (N := 6) rfl ?_); refine box_event ?hg (N := 6) ?hd (cs := #[.int .i64 0, .int .i64 0, .slice none 0 0]) (t := 24) ?hr ?_; (case hd => rfl); (case hg => rfl); (case hr => first | (go_simp; done) | (go_simp; rfl)); intro gb320 hg w8 hbox hb; have n0_ := As_ (blk_below (g := gb319) (o := .cells #[.int .i64 a0_0, .int .i64 a0_1, .slice A0_2 l0_2.length c0_2] 24 (0, 0)) (ak_ BK319.out) hb); have n1_ := As_ (below_step (zb1_ HB.out GE319.out) hb); have n2_ := As_ (hbox); have n3_ := As_ ((sb_ hg (zb1_ HB.out GE319.out) : w.heap.size ≤ gb320)); have n4_ := As_ ((sb_ hg (zb1_ HB.out GE319.out) : w.heap.size ≤ gb320)); have n5_ := As_ ((nl_ hg BK319.out : gb319 ≠ gb320)); have n6_ := As_ ((ng_ hg BK319.out : gb320 ≠ gb319)); clear BK319 HB; have BK319 := n0_; have HB := n1_; have BK320 := n2_; have GW320 := n3_; have GE320 := n4_; have NB319_320 := n5_; have NB320_319 := n6_; clear n0_ n1_ n2_ n3_ n4_ n5_ n6_ hb hbox hg; have hnb9 := NB319_320.out; have hnc9 := NB320_319.out; obtain ⟨hcz10_0, hcz10_1, hcz10_2, hfz10_0, hfz10_1, hfz10_2⟩ := blk_all3 BK319.out) | ((with_reducible refine gate_callee (f := 47) rfl ?_); refine goesL_ (some 11) rfl rfl Try.func47 (by kernel_rfl) rfl #[.agg #[.int .i64 a0_0, .int .i64 a0_1, .slice A0_2 l0_2.length c0_2]] rfl tm_ ?_; (with_reducible refine (spec_l10Copy.calls a0_0 a0_1 _ _ l0_2 t321 t322 t323 _ ?side1 ?side2 A4.out).mono ?_); (case side1 => repeat (first | exact (Kd.C_below HR0_2.out HB.out) | (with_reducible first | apply cA_ | apply cN_ | apply cD_))); (case side2 => exact HC0_2.out); rintro e w11 ⟨v324, rfl, ho0, hb⟩; refine ⟨_, rfl, ?_⟩; have HO325 := As_ (Kd.R_lower ho0 (below_size (zb2_ HB.out GE319.out GE320.out))); replace BK319 := As_ (blk_below (g := gb319) (o := .cells #[.int .i64 a0_0, .int .i64 a0_1, .slice A0_2 l0_2.length c0_2] 24 (0, 0)) (ak_ BK319.out) hb); replace BK320 := As_ (blk_below (g := gb320) (o := .cells #[.int .i64 0, .int .i64 0, .slice none 0 0] 24 (0, 0)) (ak_ BK320.out) hb); replace HB := As_ (below_step (zb2_ HB.out GE319.out GE320.out) hb); (try clear hb); (try clear hb2); (try clear hk); (try clear hi); (try clear ho0)) | ((with_reducible refine gate_dst (N := 8) rfl ?_); refine box_event ?hg (N := 8) ?hd (cs := #[.int .i64 0, .int .i64 0, .slice none 0 0]) (t := 24) ?hr ?_; (case hd => rfl); (case hg => rfl); (case hr => first | (go_simp; done) | (go_simp; rfl)); intro gb326 hg w12 hbox hb; have n0_ := As_ (Kd.R_below (rk_ HO325.out) hb); have n1_ := As_ (blk_below (g := gb319) (o := .cells #[.int .i64 a0_0, .int .i64 a0_1, .slice A0_2 l0_2.length c0_2] 24 (0, 0)) (ak_ BK319.out) hb); have n2_ := As_ (blk_below (g := gb320) (o := .cells #[.int .i64 0, .int .i64 0, .slice none 0 0] 24 (0, 0)) (ak_ BK320.out) hb); have n3_ := As_ (below_step (zb2_ HB.out GE319.out GE320.out) hb); have n4_ := As_ (hbox); have n5_ := As_ ((sb_ hg (zb2_ HB.out GE319.out GE320.out) : w.heap.size ≤ gb326)); have n6_ := As_ ((sb_ hg (zb2_ HB.out GE319.out GE320.out) : w.heap.size ≤ gb326)); have n7_ := As_ ((nl_ hg BK319.out : gb319 ≠ gb326)); have n8_ := As_ ((ng_ hg BK319.out : gb326 ≠ gb319)); have n9_ := As_ ((nl_ hg BK320.out : gb320 ≠ gb326)); have n10_ := As_ ((ng_ hg BK320.out : gb326 ≠ gb320)); clear HO325 BK319 BK320 HB; have HO325 := n0_; have BK319 := n1_; have BK320 := n2_; have HB := n3_; have BK326 := n4_; have GW326 := n5_; have GE326 := n6_; have NB319_326 := n7_; have NB326_319 := n8_; have NB320_326 := n9_; have NB326_320 := n10_; clear n0_ n1_ n2_ n3_ n4_ n5_ n6_ n7_ n8_ n9_ n10_ hb hbox hg; have hnb13 := NB326_319.out; have hnc13 := NB319_326.out; have hnb14 := NB326_320.out; have hnc14 := NB320_326.out; obtain ⟨hcz15_0, hcz15_1, hcz15_2, hfz15_0, hfz15_1, hfz15_2⟩ := blk_all3 BK326.out; obtain ⟨Ao16, co16, eo16⟩ := Kd.R_slice HO325.out; subst eo16; obtain ⟨hcz17_0, hcz17_1, hcz17_2, hfz17_0, hfz17_1, hfz17_2⟩ := blk_all3 BK319.out) | ((with_reducible refine gate_callee (f := 46) rfl ?_); refine goesL_ (some 14) rfl rfl Try.func46 (by kernel_rfl) rfl #[.agg #[.int .i64 a0_0, .int .i64 a0_1, .slice A0_2 l0_2.length c0_2], .int .i64 a1] rfl tm_ ?_; (with_reducible refine (spec_l10At.calls k a0_0 a0_1 _ _ l0_2 a1 t327 _ ?side1 ?side2 A5.out).mono ?_); (case side1 => exact Kd.C_below HR0_2.out (zb3_ HB.out GE319.out GE320.out GE326.out)); (case side2 => exact HC0_2.out); rintro e w18 ⟨rfl, hb⟩; refine ⟨_, rfl, ?_⟩; replace HO325 := As_ (Kd.R_below (rf3_ HO325.out BK326.out) hb); replace BK319 := As_ (blk_below (g := gb319) (o := .cells #[.int .i64 a0_0, .int .i64 a0_1, .slice A0_2 l0_2.length c0_2] 24 (0, 0)) (af_ NB319_326.out BK319.out) hb); replace BK320 := As_ (blk_below (g := gb320) (o := .cells #[.int .i64 0, .int .i64 0, .slice none 0 0] 24 (0, 0)) (af_ NB320_326.out BK320.out) hb); replace BK326 := As_ (blk_below (g := gb326) (o := .cells #[.int .i64 t321, .int .i64 t322, .slice Ao16 t323.length co16] 24 (0, 0)) (ap_ BK326.out) hb); replace HB := As_ (below_step (zb3_ HB.out GE319.out GE320.out GE326.out) hb); (try clear hb); (try clear hb2); (try clear hk); (try clear hi); obtain ⟨hcz19_0, hcz19_1, hcz19_2, hfz19_0, hfz19_1, hfz19_2⟩ := blk_all3 BK326.out; obtain ⟨hcz20_0, hcz20_1, hcz20_2, hfz20_0, hfz20_1, hfz20_2⟩ := blk_all3 BK320.out))
    refine bodyPost_ret (results_ct rfl _ _ gb320 24 #[.int .i64 t321, .int .i64 t322, .slice Ao16 t323.length co16] (0, 0) _ rfl (ap_ BK320.out) Try.underlying24 rfl (by kernel_rfl)) rfl ?_
    exact ⟨_, by first | rfl | (simp [errW_none, errW_some] <;> rfl) | (simp [*, errW_none, errW_some] <;> rfl), rt3_ HO325.out BK320.out, zb3_ HB.out GE319.out GE320.out GE326.out⟩
  · rw [if_neg c6] at H
    have c6b0 : decide (t327 < 0) = false := decide_eq_false c6
    clear c6
    replace H := Option.bind_eq_some_iff.mp H
    obtain ⟨t328, A210, H⟩ := H
    replace H : ((spec_l1In.f a2 0 t328).bind fun t329 => (if t329 = true then (if 0 ≤ t327 then (if t327 < (t323.length : Int) then ((spec_l10Ends.f k a0_0 a0_1 l0_2 (wrap64 (t321 - a2)) t322 (t323.set (t327 : Int).toNat (⟨(rd_T48 t323 t327).f0, wrap64 (((rd_T48 t323 t327).f1) - a2)⟩ : S48)) true).bind fun bt332 => (some (bt332.1, bt332.2.1, bt332.2.2.1, bt332.2.2.2))) else (none)) else (none)) else (some (t321, t322, t323, false)))) = some (r1, r2, r3, r4) := H
    have A21 := Aside0.mk A210
    clear A210
    replace H := Option.bind_eq_some_iff.mp H
    obtain ⟨t329, A220, H⟩ := H
    replace H : (if t329 = true then (if 0 ≤ t327 then (if t327 < (t323.length : Int) then ((spec_l10Ends.f k a0_0 a0_1 l0_2 (wrap64 (t321 - a2)) t322 (t323.set (t327 : Int).toNat (⟨(rd_T48 t323 t327).f0, wrap64 (((rd_T48 t323 t327).f1) - a2)⟩ : S48)) true).bind fun bt332 => (some (bt332.1, bt332.2.1, bt332.2.2.1, bt332.2.2.2))) else (none)) else (none)) else (some (t321, t322, t323, false))) = some (r1, r2, r3, r4) := H
    have A22 := Aside0.mk A220
    clear A220
    by_cases c23 : t329 = true
    · subst c23
      have H1 : (if 0 ≤ t327 then (if t327 < (t323.length : Int) then ((spec_l10Ends.f k a0_0 a0_1 l0_2 (wrap64 (t321 - a2)) t322 (t323.set (t327 : Int).toNat (⟨(rd_T48 t323 t327).f0, wrap64 (((rd_T48 t323 t327).f1) - a2)⟩ : S48)) true).bind fun bt332 => (some (bt332.1, bt332.2.1, bt332.2.2.1, bt332.2.2.2))) else (none)) else (none)) = some (r1, r2, r3, r4) := by rw [if_pos rfl] at H; exact H
      clear H
      have H := H1
      clear H1
      by_cases c24 : 0 ≤ t327
      · rw [if_pos c24] at H
        have c24b0 : decide (0 ≤ t327) = true := decide_eq_true c24
        clear c24
        by_cases c25 : t327 < (t323.length : Int)
        · rw [if_pos c25] at H
          have c25b0 : decide (t327 < (t323.length : Int)) = true := decide_eq_true c25
          clear c25
          obtain ⟨y331, hy331⟩ : ∃ y_ : List (S48), y_ = (t323.set (t327 : Int).toNat (⟨(rd_T48 t323 t327).f0, wrap64 (((rd_T48 t323 t327).f1) - a2)⟩ : S48)) := ⟨_, rfl⟩
          replace H : ((spec_l10Ends.f k a0_0 a0_1 l0_2 (wrap64 (t321 - a2)) t322 y331 true).bind fun bt332 => (some (bt332.1, bt332.2.1, bt332.2.2.1, bt332.2.2.2))) = some (r1, r2, r3, r4) := by first | (rw [hy331]; with_reducible exact H) | (have H2_ := (Option.bind_some _ _).symm.trans H; rw [hy331]; with_reducible exact H2_) | (have H2_ := (Option.bind_some _ _).symm.trans H; with_reducible exact H2_) | with_reducible exact H | (rw [hy331]; exact H) | exact H
          have Ny331 := Aside0.mk hy331
          clear hy331
          replace H := Option.bind_eq_some_iff.mp H
          obtain ⟨⟨t332, t333, t334, t337⟩, A270, H⟩ := H
          replace H : (some (t332, t333, t334, t337)) = some (r1, r2, r3, r4) := H
          have A27 := Aside0.mk A270
          clear A270
          simp only [Option.some.injEq, Prod.mk.injEq] at H
          obtain ⟨rfl, rfl, rfl, rfl⟩ := H
          go_enter Try.func30, Try.ntmps30
          try go_wp2_with (first | ((with_reducible refine gate_dst (N := 3) rfl ?_); refine box_event ?hg (N := 3) ?hd (cs := #[.int .i64 a0_0, .int .i64 a0_1, .slice A0_2 l0_2.length c0_2]) (t := 24) ?hr ?_; (case hd => rfl); (case hg => rfl); (case hr => first | (go_simp; done) | (go_simp; rfl)); intro gb319 hg w28 hbox hb; have n0_ := As_ (below_step (zb0_ HB.out) hb); have n1_ := As_ (hbox); have n2_ := As_ ((sb_ hg (zb0_ HB.out) : w.heap.size ≤ gb319)); have n3_ := As_ ((sb_ hg (zb0_ HB.out) : w.heap.size ≤ gb319)); clear HB; have HB := n0_; have BK319 := n1_; have GW319 := n2_; have GE319 := n3_; clear n0_ n1_ n2_ n3_ hb hbox hg) | ((with_reducible refine gate_dst (N := 6) rfl ?_); refine box_event ?hg (N := 6) ?hd (cs := #[.int .i64 0, .int .i64 0, .slice none 0 0]) (t := 24) ?hr ?_; (case hd => rfl); (case hg => rfl); (case hr => first | (go_simp; done) | (go_simp; rfl)); intro gb320 hg w29 hbox hb; have n0_ := As_ (blk_below (g := gb319) (o := .cells #[.int .i64 a0_0, .int .i64 a0_1, .slice A0_2 l0_2.length c0_2] 24 (0, 0)) (ak_ BK319.out) hb); have n1_ := As_ (below_step (zb1_ HB.out GE319.out) hb); have n2_ := As_ (hbox); have n3_ := As_ ((sb_ hg (zb1_ HB.out GE319.out) : w.heap.size ≤ gb320)); have n4_ := As_ ((sb_ hg (zb1_ HB.out GE319.out) : w.heap.size ≤ gb320)); have n5_ := As_ ((nl_ hg BK319.out : gb319 ≠ gb320)); have n6_ := As_ ((ng_ hg BK319.out : gb320 ≠ gb319)); clear BK319 HB; have BK319 := n0_; have HB := n1_; have BK320 := n2_; have GW320 := n3_; have GE320 := n4_; have NB319_320 := n5_; have NB320_319 := n6_; clear n0_ n1_ n2_ n3_ n4_ n5_ n6_ hb hbox hg; have hnb30 := NB319_320.out; have hnc30 := NB320_319.out; obtain ⟨hcz31_0, hcz31_1, hcz31_2, hfz31_0, hfz31_1, hfz31_2⟩ := blk_all3 BK319.out) | ((with_reducible refine gate_callee (f := 47) rfl ?_); refine goesL_ (some 11) rfl rfl Try.func47 (by kernel_rfl) rfl #[.agg #[.int .i64 a0_0, .int .i64 a0_1, .slice A0_2 l0_2.length c0_2]] rfl tm_ ?_; (with_reducible refine (spec_l10Copy.calls a0_0 a0_1 _ _ l0_2 t321 t322 t323 _ ?side1 ?side2 A4.out).mono ?_); (case side1 => repeat (first | exact (Kd.C_below HR0_2.out HB.out) | (with_reducible first | apply cA_ | apply cN_ | apply cD_))); (case side2 => exact HC0_2.out); rintro e w32 ⟨v324, rfl, ho0, hb⟩; refine ⟨_, rfl, ?_⟩; have HO325 := As_ (Kd.R_lower ho0 (below_size (zb2_ HB.out GE319.out GE320.out))); replace BK319 := As_ (blk_below (g := gb319) (o := .cells #[.int .i64 a0_0, .int .i64 a0_1, .slice A0_2 l0_2.length c0_2] 24 (0, 0)) (ak_ BK319.out) hb); replace BK320 := As_ (blk_below (g := gb320) (o := .cells #[.int .i64 0, .int .i64 0, .slice none 0 0] 24 (0, 0)) (ak_ BK320.out) hb); replace HB := As_ (below_step (zb2_ HB.out GE319.out GE320.out) hb); (try clear hb); (try clear hb2); (try clear hk); (try clear hi); (try clear ho0)) | ((with_reducible refine gate_dst (N := 8) rfl ?_); refine box_event ?hg (N := 8) ?hd (cs := #[.int .i64 0, .int .i64 0, .slice none 0 0]) (t := 24) ?hr ?_; (case hd => rfl); (case hg => rfl); (case hr => first | (go_simp; done) | (go_simp; rfl)); intro gb326 hg w33 hbox hb; have n0_ := As_ (Kd.R_below (rk_ HO325.out) hb); have n1_ := As_ (blk_below (g := gb319) (o := .cells #[.int .i64 a0_0, .int .i64 a0_1, .slice A0_2 l0_2.length c0_2] 24 (0, 0)) (ak_ BK319.out) hb); have n2_ := As_ (blk_below (g := gb320) (o := .cells #[.int .i64 0, .int .i64 0, .slice none 0 0] 24 (0, 0)) (ak_ BK320.out) hb); have n3_ := As_ (below_step (zb2_ HB.out GE319.out GE320.out) hb); have n4_ := As_ (hbox); have n5_ := As_ ((sb_ hg (zb2_ HB.out GE319.out GE320.out) : w.heap.size ≤ gb326)); have n6_ := As_ ((sb_ hg (zb2_ HB.out GE319.out GE320.out) : w.heap.size ≤ gb326)); have n7_ := As_ ((nl_ hg BK319.out : gb319 ≠ gb326)); have n8_ := As_ ((ng_ hg BK319.out : gb326 ≠ gb319)); have n9_ := As_ ((nl_ hg BK320.out : gb320 ≠ gb326)); have n10_ := As_ ((ng_ hg BK320.out : gb326 ≠ gb320)); clear HO325 BK319 BK320 HB; have HO325 := n0_; have BK319 := n1_; have BK320 := n2_; have HB := n3_; have BK326 := n4_; have GW326 := n5_; have GE326 := n6_; have NB319_326 := n7_; have NB326_319 := n8_; have NB320_326 := n9_; have NB326_320 := n10_; clear n0_ n1_ n2_ n3_ n4_ n5_ n6_ n7_ n8_ n9_ n10_ hb hbox hg; have hnb34 := NB326_319.out; have hnc34 := NB319_326.out; have hnb35 := NB326_320.out; have hnc35 := NB320_326.out; obtain ⟨hcz36_0, hcz36_1, hcz36_2, hfz36_0, hfz36_1, hfz36_2⟩ := blk_all3 BK326.out; obtain ⟨Ao37, co37, eo37⟩ := Kd.R_slice HO325.out; subst eo37; obtain ⟨hcz38_0, hcz38_1, hcz38_2, hfz38_0, hfz38_1, hfz38_2⟩ := blk_all3 BK319.out) | ((with_reducible refine gate_callee (f := 46) rfl ?_); refine goesL_ (some 14) rfl rfl Try.func46 (by kernel_rfl) rfl #[.agg #[.int .i64 a0_0, .int .i64 a0_1, .slice A0_2 l0_2.length c0_2], .int .i64 a1] rfl tm_ ?_; (with_reducible refine (spec_l10At.calls k a0_0 a0_1 _ _ l0_2 a1 t327 _ ?side1 ?side2 A5.out).mono ?_); (case side1 => exact Kd.C_below HR0_2.out (zb3_ HB.out GE319.out GE320.out GE326.out)); (case side2 => exact HC0_2.out); rintro e w39 ⟨rfl, hb⟩; refine ⟨_, rfl, ?_⟩; replace HO325 := As_ (Kd.R_below (rf3_ HO325.out BK326.out) hb); replace BK319 := As_ (blk_below (g := gb319) (o := .cells #[.int .i64 a0_0, .int .i64 a0_1, .slice A0_2 l0_2.length c0_2] 24 (0, 0)) (af_ NB319_326.out BK319.out) hb); replace BK320 := As_ (blk_below (g := gb320) (o := .cells #[.int .i64 0, .int .i64 0, .slice none 0 0] 24 (0, 0)) (af_ NB320_326.out BK320.out) hb); replace BK326 := As_ (blk_below (g := gb326) (o := .cells #[.int .i64 t321, .int .i64 t322, .slice Ao37 t323.length co37] 24 (0, 0)) (ap_ BK326.out) hb); replace HB := As_ (below_step (zb3_ HB.out GE319.out GE320.out GE326.out) hb); (try clear hb); (try clear hb2); (try clear hk); (try clear hi); obtain ⟨hcz40_0, hcz40_1, hcz40_2, hfz40_0, hfz40_1, hfz40_2⟩ := blk_all3 BK319.out) | (go_at_call 22; (with_reducible refine (spec_RoomOf.calls k a0_0 a0_1 _ _ l0_2 a1 t328 _ ?side1 ?side2 A21.out).mono ?_); (case side1 => repeat (first | exact (Kd.C_below HR0_2.out HB.out) | (with_reducible first | apply cA_ | apply cN_ | apply cD_))); (case side2 => exact HC0_2.out); rintro e w41 ⟨rfl, hb⟩; replace HO325 := As_ (Kd.R_below (rk_ HO325.out) hb); replace BK319 := As_ (blk_below (g := gb319) (o := .cells #[.int .i64 a0_0, .int .i64 a0_1, .slice A0_2 l0_2.length c0_2] 24 (0, 0)) (ak_ BK319.out) hb); replace BK320 := As_ (blk_below (g := gb320) (o := .cells #[.int .i64 0, .int .i64 0, .slice none 0 0] 24 (0, 0)) (ak_ BK320.out) hb); replace BK326 := As_ (blk_below (g := gb326) (o := .cells #[.int .i64 t321, .int .i64 t322, .slice Ao37 t323.length co37] 24 (0, 0)) (ak_ BK326.out) hb); replace HB := As_ (below_step (zb3_ HB.out GE319.out GE320.out GE326.out) hb); (try clear hb); (try clear hb2); (try clear hk); (try clear hi)) | (go_at_call 38; (with_reducible refine (spec_l1In.calls a2 0 t328 true _ A22.out).mono ?_); rintro e w' ⟨rfl, ⟨nd, rfl⟩⟩; (try (rw [drewN_self w41]; generalize hq_ : World.drewN w41 _ = w41; replace HO325 : Aside0 (Kd.R k48 48 w41 w.heap.size (fun _ => True) (.slice Ao37 t323.length co37) t323) := ⟨by rw [← hq_]; exact (rk_ HO325.out)⟩; replace BK319 : Aside0 (w41.heap[gb319]? = some (.cells #[.int .i64 a0_0, .int .i64 a0_1, .slice A0_2 l0_2.length c0_2] 24 (0, 0))) := ⟨by rw [← hq_]; exact (ak_ BK319.out)⟩; replace BK320 : Aside0 (w41.heap[gb320]? = some (.cells #[.int .i64 0, .int .i64 0, .slice none 0 0] 24 (0, 0))) := ⟨by rw [← hq_]; exact (ak_ BK320.out)⟩; replace BK326 : Aside0 (w41.heap[gb326]? = some (.cells #[.int .i64 t321, .int .i64 t322, .slice Ao37 t323.length co37] 24 (0, 0))) := ⟨by rw [← hq_]; exact (ak_ BK326.out)⟩; replace HB : Aside0 (Below w.heap.size w w41) := ⟨by rw [← hq_]; exact (zb3_ HB.out GE319.out GE320.out GE326.out)⟩; clear hq_)); obtain ⟨hcz42_0, hcz42_1, hcz42_2, hfz42_0, hfz42_1, hfz42_2⟩ := blk_all3 BK326.out))
          have n0_ : Aside0 (Kd.R k48 48 (w41.setCell ⟨gb326, 0, none⟩ (.int .i64 (wrap64 (t321 - a2)))) w.heap.size (fun _ => True) (.slice Ao37 t323.length co37) t323) := ⟨rt1_ HO325.out BK326.out⟩
          have n1_ : Aside0 ((w41.setCell ⟨gb326, 0, none⟩ (.int .i64 (wrap64 (t321 - a2)))).heap[gb319]? = some (.cells #[.int .i64 a0_0, .int .i64 a0_1, .slice A0_2 l0_2.length c0_2] 24 (0, 0))) := ⟨af_ NB319_326.out BK319.out⟩
          have n2_ : Aside0 ((w41.setCell ⟨gb326, 0, none⟩ (.int .i64 (wrap64 (t321 - a2)))).heap[gb320]? = some (.cells #[.int .i64 0, .int .i64 0, .slice none 0 0] 24 (0, 0))) := ⟨af_ NB320_326.out BK320.out⟩
          have n3_ : Aside0 ((w41.setCell ⟨gb326, 0, none⟩ (.int .i64 (wrap64 (t321 - a2)))).heap[gb326]? = some (.cells #[.int .i64 (wrap64 (t321 - a2)), .int .i64 t322, .slice Ao37 t323.length co37] 24 (0, 0))) := ⟨ap_ BK326.out⟩
          have n4_ : Aside0 (Below w.heap.size w (w41.setCell ⟨gb326, 0, none⟩ (.int .i64 (wrap64 (t321 - a2))))) := ⟨zb3_ HB.out GE319.out GE320.out GE326.out⟩
          (try clear HO325)
          (try clear BK319)
          (try clear BK320)
          (try clear BK326)
          (try clear HB)
          generalize (w41.setCell ⟨gb326, 0, none⟩ (.int .i64 (wrap64 (t321 - a2)))) = w43 at n0_ n1_ n2_ n3_ n4_ ⊢
          have HO325 := n0_
          have BK319 := n1_
          have BK320 := n2_
          have BK326 := n3_
          have HB := n4_
          clear n0_ n1_ n2_ n3_ n4_
          replace HO325 := As_ (Kd.R_drew HO325.out)
          replace BK319 := As_ (blk_drew BK319.out)
          replace BK320 := As_ (blk_drew BK320.out)
          replace BK326 := As_ (blk_drew BK326.out)
          replace HB := As_ (below_drew1 HB.out)
          have p330 : 0 ≤ (t327 : Int) := of_decide_eq_true sm_
          have q330 : t327 < (t323.length : Int) := of_decide_eq_true sm_
          obtain ⟨ad330, e330, hx330_0, hx330_1⟩ := at_T48 (Kd.R_reads' HO325.out).2.2 t327 p330 q330
          cases e330
          replace p330 := eq_true p330
          replace q330 := eq_true q330
          have p26 : 0 ≤ (t327 : Int) := of_decide_eq_true sm_
          have q26 : (t327 : Int) < ((t323.length : Int) : Int) := of_decide_eq_true sm_
          obtain ⟨go26, co26, eo26, gb26, gl26, cl26, HG26⟩ := Kd.R_form HO325.out (by omega)
          (first | cases eo26 | (injection eo26 with ea_ en_ ec_; (first | subst ea_ | (injection ea_ with ea_; subst ea_)); subst ec_; clear en_))
          have GB26 := Aside0.mk gb26
          have GG26 := Aside0.mk HG26
          clear gb26 gl26 HG26
          (first | simp only [add_plain] at hx330_0 | skip)
          (first | simp only [add_plain] at hx330_1 | skip)
          obtain ⟨ce26, hcl26, hM26, hcc26, hfr26⟩ := Kd.R_elem HO325.out z48 (t327 : Int) p26 q26
          obtain rfl := k48_openM hM26
          have hx26_0 : World.cell? _ ⟨go26, (t327 : Int).toNat * 2, none⟩ = some (.int .i64 ((rd_T48 t323 t327).f0)) := hcc26 0 _ rfl
          have hx26_1 : World.cell? _ ⟨go26, (t327 : Int).toNat * 2 + 1, none⟩ = some (.int .i64 ((rd_T48 t323 t327).f1)) := hcc26 1 _ rfl
          have hf26_0 : World.frozen? _ ⟨go26, (t327 : Int).toNat * 2, none⟩ = false := hfr26 0
          have hf26_1 : World.frozen? _ ⟨go26, (t327 : Int).toNat * 2 + 1, none⟩ = false := hfr26 1
          clear hcl26 hcc26 hfr26 hM26
          replace p26 := eq_true p26
          replace q26 := eq_true q26
          obtain ⟨ce45, hcl45, hM45, hcc45, hfr45⟩ := Kd.R_elem HO325.out z48 (t327 : Int) (of_decide_eq_true sm_) (by have h_ : (t327 : Int) < ((t323.length : Int) : Int) := of_decide_eq_true sm_; first | exact h_ | (have e_ := (Kd.R_reads' HO325.out).1; omega) | simpa using h_)
          obtain rfl := k48_openM hM45
          have HP45 := (Kd.R_seg HO325.out (t327 : Int) (of_decide_eq_true sm_) (by have h_ : (t327 : Int) < ((t323.length : Int) : Int) := of_decide_eq_true sm_; first | exact h_ | (have e_ := (Kd.R_reads' HO325.out).1; omega) | simpa using h_) (seg := [.int .i64 (wrap64 (((rd_T48 t323 t327).f1) - a2))]) (j := 1) hcl45 hcc45 (show 2 ≤ 2 from by decide) (x' := (⟨(rd_T48 t323 t327).f0, wrap64 (((rd_T48 t323 t327).f1) - a2)⟩ : S48)) (k48_mkM _ _ _ (⟨(rd_T48 t323 t327).f0, wrap64 (((rd_T48 t323 t327).f1) - a2)⟩ : S48) ) (fun _ hk => hk)).1
          rw [← Ny331.out] at HP45
          have HQ45 := Aside0.mk HP45
          clear hcl45 hcc45 hfr45 hM45 HP45
          refine start_ (n := 14) (S := fun w' => w'.cell? ⟨gb326, 0, none⟩ = some (.int .i64 (wrap64 (t321 - a2))) ∧ w'.cell? ⟨gb326, 1, none⟩ = some (.int .i64 t322) ∧ w'.cell? ⟨gb326, 2, none⟩ = some (.slice (some ⟨go26, 0, none⟩) t323.length co37) ∧ w'.cell? ⟨go26, ((t327).toNat * 2), none⟩ = some (.int .i64 ((rd_T48 t323 t327).f0)) ∧ w'.cell? ⟨go26, ((t327).toNat * 2) + 1, none⟩ = some (.int .i64 ((rd_T48 t323 t327).f1))) (ds := [13]) #[false, false, false, false, false, false, false, false, false, false, false, false, false, false] (by kernel_rfl) rfl rfl ⟨(blk_cell BK326.out 0).trans rfl, (blk_cell BK326.out 1).trans rfl, (blk_cell BK326.out 2).trans rfl, hx330_0, hx330_1⟩ (fun hHeld => ?_); refine with_tabW spec_Spend.tab6 spec_Spend.bits6 (fun HT_ HW_ => ?_)
          generalize w43.drew = w44 at HO325 BK319 BK320 BK326 HB GG26 HQ45 hf26_0 hf26_1 hx26_0 hx26_1 hx330_0 hx330_1 hHeld ⊢
          refine pure_ (i := 0) (N := some 31) (v := ?_) (a' := ?_) #[true, false, false, false, false, false, false, false, false, false, false, false, false, false] rfl rfl (any_of HT_.out (by kernel_rfl)) (fun _ _ _ h => h) (Or.inl ⟨by rfl, ?_⟩) ?_ ?_
          rotate_left
          · intro w'
            go_simp
            with_reducible rfl
          rotate_left
          · simp only [Act.put, List.setIfInBounds_toArray, List.set_cons_zero, List.set_cons_succ, i64_w, i32_w]
            rfl
          refine pure_ (i := 2) (N := some 33) (v := ?_) (a' := ?_) #[true, false, true, false, false, false, false, false, false, false, false, false, false, false] rfl rfl (any_of HT_.out (by kernel_rfl)) (fun _ _ _ h => h) (Or.inl ⟨by rfl, ?_⟩) ?_ ?_
          rotate_left
          · intro w'
            go_simp
            with_reducible rfl
          rotate_left
          · simp only [Act.put, List.setIfInBounds_toArray, List.set_cons_zero, List.set_cons_succ, i64_w, i32_w]
            rfl
          refine pure_ (i := 3) (N := some 34) (v := ?_) (a' := ?_) #[true, false, true, true, false, false, false, false, false, false, false, false, false, false] rfl rfl (any_of HT_.out (by kernel_rfl)) (fun _ _ _ h => h) (Or.inl ⟨by rfl, ?_⟩) ?_ ?_
          rotate_left
          · intro w'
            go_simp
            with_reducible rfl
          rotate_left
          · simp only [Act.put, List.setIfInBounds_toArray, List.set_cons_zero, List.set_cons_succ, i64_w, i32_w]
            rfl
          refine pure_ (i := 5) (N := some 36) (v := ?_) (a' := ?_) #[true, false, true, true, false, true, false, false, false, false, false, false, false, false] rfl rfl (any_of HT_.out (by kernel_rfl)) (fun _ _ _ h => h) (Or.inl ⟨by rfl, ?_⟩) ?_ ?_
          rotate_left
          · intro w'
            go_simp
            with_reducible rfl
          rotate_left
          · simp only [Act.put, List.setIfInBounds_toArray, List.set_cons_zero, List.set_cons_succ, i64_w, i32_w]
            rfl
          refine pure_ (i := 9) (N := some 40) (v := ?_) (a' := ?_) #[true, false, true, true, false, true, false, false, false, true, false, false, false, false] rfl rfl (any_of HT_.out (by kernel_rfl)) (fun _ _ _ h => h) (Or.inl ⟨by rfl, ?_⟩) ?_ ?_
          rotate_left
          · intro w'
            go_simp
            with_reducible rfl
          rotate_left
          · simp only [Act.put, List.setIfInBounds_toArray, List.set_cons_zero, List.set_cons_succ, i64_w, i32_w]
            rfl
          refine take_ (i := 1) (N := some 32) (v := ?_) (a' := ?_) #[true, true, true, true, false, true, false, false, false, true, false, false, false, false] rfl rfl (take_ofW HT_.out HW_.out (by kernel_rfl)) (fun _ _ _ h => h) (Or.inl ⟨by rfl, ?_⟩) hHeld ?_ ?_
          rotate_left
          · rintro w' ⟨s0, s1, s2, s3, s4⟩
            go_simp
            with_reducible rfl
          rotate_left
          · simp only [Act.put, List.setIfInBounds_toArray, List.set_cons_zero, List.set_cons_succ, i64_w, i32_w]
            rfl
          refine take_ (i := 4) (N := some 35) (v := ?_) (a' := ?_) #[true, true, true, true, true, true, false, false, false, true, false, false, false, false] rfl rfl (take_ofW HT_.out HW_.out (by kernel_rfl)) (fun _ _ _ h => h) (Or.inl ⟨by rfl, ?_⟩) hHeld ?_ ?_
          rotate_left
          · rintro w' ⟨s0, s1, s2, s3, s4⟩
            go_simp
            with_reducible rfl
          rotate_left
          · simp only [Act.put, List.setIfInBounds_toArray, List.set_cons_zero, List.set_cons_succ, i64_w, i32_w]
            rfl
          refine pure_ (i := 6) (N := some 37) (v := ?_) (a' := ?_) #[true, true, true, true, true, true, true, false, false, true, false, false, false, false] rfl rfl (any_of HT_.out (by kernel_rfl)) (fun _ _ _ h => h) (Or.inl ⟨by rfl, ?_⟩) ?_ ?_
          rotate_left
          · intro w'
            go_simp
            with_reducible rfl
          rotate_left
          · simp only [Act.put, List.setIfInBounds_toArray, List.set_cons_zero, List.set_cons_succ, i64_w, i32_w]
            rfl
          refine pure_ (i := 7) (N := some 38) (v := ?_) (a' := ?_) #[true, true, true, true, true, true, true, true, false, true, false, false, false, false] rfl rfl (any_of HT_.out (by kernel_rfl)) (fun _ _ _ h => h) (Or.inl ⟨by rfl, ?_⟩) ?_ ?_
          rotate_left
          · intro w'
            go_simp
            with_reducible rfl
          rotate_left
          · simp only [Act.put, List.setIfInBounds_toArray, List.set_cons_zero, List.set_cons_succ, i64_w, i32_w]
            rfl
          refine take_ (i := 8) (N := some 39) (v := ?_) (a' := ?_) #[true, true, true, true, true, true, true, true, true, true, false, false, false, false] rfl rfl (take_ofW HT_.out HW_.out (by kernel_rfl)) (fun _ _ _ h => h) (Or.inl ⟨by rfl, ?_⟩) hHeld ?_ ?_
          rotate_left
          · rintro w' ⟨s0, s1, s2, s3, s4⟩
            go_simp
            with_reducible rfl
          rotate_left
          · simp only [Act.put, List.setIfInBounds_toArray, List.set_cons_zero, List.set_cons_succ, i64_w, i32_w]
            rfl
          refine pure_ (i := 10) (N := some 41) (v := ?_) (a' := ?_) #[true, true, true, true, true, true, true, true, true, true, true, false, false, false] rfl rfl (any_of HT_.out (by kernel_rfl)) (fun _ _ _ h => h) (Or.inl ⟨by rfl, ?_⟩) ?_ ?_
          rotate_left
          · intro w'
            go_simp
            with_reducible rfl
          rotate_left
          · simp only [Act.put, List.setIfInBounds_toArray, List.set_cons_zero, List.set_cons_succ, i64_w, i32_w]
            rfl
          refine pure_ (i := 11) (N := some 42) (v := ?_) (a' := ?_) #[true, true, true, true, true, true, true, true, true, true, true, true, false, false] rfl rfl (any_of HT_.out (by kernel_rfl)) (fun _ _ _ h => h) (Or.inl ⟨by rfl, ?_⟩) ?_ ?_
          rotate_left
          · intro w'
            go_simp
            with_reducible rfl
          rotate_left
          · simp only [Act.put, List.setIfInBounds_toArray, List.set_cons_zero, List.set_cons_succ, i64_w, i32_w]
            rfl
          refine pure_ (i := 12) (N := some 43) (v := ?_) (a' := ?_) #[true, true, true, true, true, true, true, true, true, true, true, true, true, false] rfl rfl (any_of HT_.out (by kernel_rfl)) (fun _ _ _ h => h) (Or.inl ⟨by rfl, ?_⟩) ?_ ?_
          rotate_left
          · intro w'
            go_simp
            with_reducible rfl
          rotate_left
          · simp only [Act.put, List.setIfInBounds_toArray, List.set_cons_zero, List.set_cons_succ, i64_w, i32_w]
            rfl
          refine last_ (i := 13) (N := none) #[true, true, true, true, true, true, true, true, true, true, true, true, true, true] rfl rfl (one_of HT_.out (by kernel_rfl)) (by decide) (fun K hK => ?_)
          refine skip_ (w1 := ?_) (by rfl) rfl ?_ ?_
          rotate_left
          · go_simp
            rfl
          refine hK.out _ _ ?_
          clear hK K
          refine done_ (done_of HT_.out (by kernel_rfl)) ?_
          have n0_ : Aside0 (Kd.R k48 48 (w44.setCell ⟨go26, (t327 : Int).toNat * 2 + 1, none⟩ (.int .i64 (wrap64 (((rd_T48 t323 t327).f1) - a2)))) w.heap.size (fun _ => True) (.slice (some ⟨go26, 0, none⟩) t323.length co37) y331) := ⟨rk_ HQ45.out⟩
          have n1_ : Aside0 ((w44.setCell ⟨go26, (t327 : Int).toNat * 2 + 1, none⟩ (.int .i64 (wrap64 (((rd_T48 t323 t327).f1) - a2)))).heap[gb319]? = some (.cells #[.int .i64 a0_0, .int .i64 a0_1, .slice A0_2 l0_2.length c0_2] 24 (0, 0))) := ⟨by (with_reducible repeat (first | apply kN_ | apply kD_ | apply kA_)); refine blk_far ?_ (by have h_ := Kd.R_ne HO325.out BK319.out (by decide); intro e_; exact h_ (by rw [e_]; rfl)) _; (with_reducible repeat (first | apply kN_ | apply kD_ | apply kA_)); exact BK319.out⟩
          have n2_ : Aside0 ((w44.setCell ⟨go26, (t327 : Int).toNat * 2 + 1, none⟩ (.int .i64 (wrap64 (((rd_T48 t323 t327).f1) - a2)))).heap[gb320]? = some (.cells #[.int .i64 0, .int .i64 0, .slice none 0 0] 24 (0, 0))) := ⟨by (with_reducible repeat (first | apply kN_ | apply kD_ | apply kA_)); refine blk_far ?_ (by have h_ := Kd.R_ne HO325.out BK320.out (by decide); intro e_; exact h_ (by rw [e_]; rfl)) _; (with_reducible repeat (first | apply kN_ | apply kD_ | apply kA_)); exact BK320.out⟩
          have n3_ : Aside0 ((w44.setCell ⟨go26, (t327 : Int).toNat * 2 + 1, none⟩ (.int .i64 (wrap64 (((rd_T48 t323 t327).f1) - a2)))).heap[gb326]? = some (.cells #[.int .i64 (wrap64 (t321 - a2)), .int .i64 t322, .slice (some ⟨go26, 0, none⟩) t323.length co37] 24 (0, 0))) := ⟨by (with_reducible repeat (first | apply kN_ | apply kD_ | apply kA_)); refine blk_far ?_ (by have h_ := Kd.R_ne HO325.out BK326.out (by decide); intro e_; exact h_ (by rw [e_]; rfl)) _; (with_reducible repeat (first | apply kN_ | apply kD_ | apply kA_)); exact BK326.out⟩
          have n4_ : Aside0 (Below w.heap.size w (w44.setCell ⟨go26, (t327 : Int).toNat * 2 + 1, none⟩ (.int .i64 (wrap64 (((rd_T48 t323 t327).f1) - a2))))) := ⟨zb4_ HB.out GB26.out GE319.out GE320.out GE326.out⟩
          (try clear HO325)
          (try clear BK319)
          (try clear BK320)
          (try clear BK326)
          (try clear HB)
          generalize (w44.setCell ⟨go26, (t327 : Int).toNat * 2 + 1, none⟩ (.int .i64 (wrap64 (((rd_T48 t323 t327).f1) - a2)))) = w46 at n0_ n1_ n2_ n3_ n4_ ⊢
          have HO325 := n0_
          have BK319 := n1_
          have BK320 := n2_
          have BK326 := n3_
          have HB := n4_
          clear n0_ n1_ n2_ n3_ n4_
          obtain ⟨hcz47_0, hcz47_1, hcz47_2, hfz47_0, hfz47_1, hfz47_2⟩ := blk_all3 BK319.out
          obtain ⟨hcz48_0, hcz48_1, hcz48_2, hfz48_0, hfz48_1, hfz48_2⟩ := blk_all3 BK326.out
          try go_wp2_with (first | ((with_reducible refine gate_callee (f := 48) rfl ?_); refine goesL_ (some 46) rfl rfl Try.func48 (by kernel_rfl) rfl #[.agg #[.int .i64 a0_0, .int .i64 a0_1, .slice A0_2 l0_2.length c0_2], .agg #[.int .i64 (wrap64 (t321 - a2)), .int .i64 t322, .slice (some ⟨go26, 0, none⟩) t323.length co37], .bool true] rfl tm_ ?_; (with_reducible refine (spec_l10Ends.calls k a0_0 a0_1 _ _ l0_2 (wrap64 (t321 - a2)) t322 (fun k_ => some k_ = (.slice (some ⟨go26, 0, none⟩) t323.length co37 : Value).ownBlock) (.slice (some ⟨go26, 0, none⟩) t323.length co37) y331 true t332 t333 t334 t337 w _ ?side1 ?side2 ?side3 ?side4 A27.out).mono ?_); (case side1 => repeat (first | (with_reducible first | exact HB.out | apply bA_ | apply bN_ | apply bD_ | refine bS_ ?_ GE319.out | refine bS_ ?_ GE320.out | refine bS_ ?_ GE326.out) | exact HB.out)); (case side2 => exact Kd.C_kept_came k48_heap HR0_2.out (zb3_ HB.out GE319.out GE320.out GE326.out) (fun k_ hs_ => (fun e_ => Kd.R_base HO325.out k_ e_.symm) hs_)); (case side3 => exact HC0_2.out); (case side4 => exact Kd.R_tight rfl HO325.out); rintro e w49 ⟨v335, rfl, ho0, hb, hkp⟩; refine ⟨_, rfl, ?_⟩; replace BK319 := As_ (blk_kept (ak_ BK319.out) hkp (fun hs_ => (fun e_ => (Kd.R_ne HO325.out BK319.out (by decide)) e_) hs_)); replace BK320 := As_ (blk_kept (ak_ BK320.out) hkp (fun hs_ => (fun e_ => (Kd.R_ne HO325.out BK320.out (by decide)) e_) hs_)); replace BK326 := As_ (blk_kept (ak_ BK326.out) hkp (fun hs_ => (fun e_ => (Kd.R_ne HO325.out BK326.out (by decide)) e_) hs_)); have HO336 := As_ (Kd.R_mono (ok' := fun k_ => True) ho0 (fun k_ hk_ => trivial)); replace HB := As_ (hb); clear HO325; (try clear hb); (try clear hkp); (try clear ho0); obtain ⟨hcz50_0, hcz50_1, hcz50_2, hfz50_0, hfz50_1, hfz50_2⟩ := blk_all3 BK320.out; obtain ⟨Ao51, co51, eo51⟩ := Kd.R_slice HO336.out; subst eo51))
          refine bodyPost_ret (results_ct rfl _ _ gb320 24 #[.int .i64 t332, .int .i64 t333, .slice Ao51 t334.length co51] (0, 0) _ rfl (ap_ BK320.out) Try.underlying24 rfl (by kernel_rfl)) rfl ?_
          exact ⟨_, by first | rfl | (simp [errW_none, errW_some] <;> rfl) | (simp [*, errW_none, errW_some] <;> rfl), rt3_ HO336.out BK320.out, zb3_ HB.out GE319.out GE320.out GE326.out⟩
        · rw [if_neg c25] at H
          exact absurd H (by simp)
      · rw [if_neg c24] at H
        exact absurd H (by simp)
    · replace c23 := Bool.eq_false_iff.mpr c23
      subst c23
      have H1 : (some (t321, t322, t323, false)) = some (r1, r2, r3, r4) := by rw [if_neg (show ¬ (false = true) by decide)] at H; exact H
      clear H
      have H := H1
      clear H1
      simp only [Option.some.injEq, Prod.mk.injEq] at H
      obtain ⟨rfl, rfl, rfl, rfl⟩ := H
      go_enter Try.func30, Try.ntmps30
      go_wp2_with (first | ((with_reducible refine gate_dst (N := 3) rfl ?_); refine box_event ?hg (N := 3) ?hd (cs := #[.int .i64 a0_0, .int .i64 a0_1, .slice A0_2 l0_2.length c0_2]) (t := 24) ?hr ?_; (case hd => rfl); (case hg => rfl); (case hr => first | (go_simp; done) | (go_simp; rfl)); intro gb319 hg w52 hbox hb; have n0_ := As_ (below_step (zb0_ HB.out) hb); have n1_ := As_ (hbox); have n2_ := As_ ((sb_ hg (zb0_ HB.out) : w.heap.size ≤ gb319)); have n3_ := As_ ((sb_ hg (zb0_ HB.out) : w.heap.size ≤ gb319)); clear HB; have HB := n0_; have BK319 := n1_; have GW319 := n2_; have GE319 := n3_; clear n0_ n1_ n2_ n3_ hb hbox hg) | ((with_reducible refine gate_dst (N := 6) rfl ?_); refine box_event ?hg (N := 6) ?hd (cs := #[.int .i64 0, .int .i64 0, .slice none 0 0]) (t := 24) ?hr ?_; (case hd => rfl); (case hg => rfl); (case hr => first | (go_simp; done) | (go_simp; rfl)); intro gb320 hg w53 hbox hb; have n0_ := As_ (blk_below (g := gb319) (o := .cells #[.int .i64 a0_0, .int .i64 a0_1, .slice A0_2 l0_2.length c0_2] 24 (0, 0)) (ak_ BK319.out) hb); have n1_ := As_ (below_step (zb1_ HB.out GE319.out) hb); have n2_ := As_ (hbox); have n3_ := As_ ((sb_ hg (zb1_ HB.out GE319.out) : w.heap.size ≤ gb320)); have n4_ := As_ ((sb_ hg (zb1_ HB.out GE319.out) : w.heap.size ≤ gb320)); have n5_ := As_ ((nl_ hg BK319.out : gb319 ≠ gb320)); have n6_ := As_ ((ng_ hg BK319.out : gb320 ≠ gb319)); clear BK319 HB; have BK319 := n0_; have HB := n1_; have BK320 := n2_; have GW320 := n3_; have GE320 := n4_; have NB319_320 := n5_; have NB320_319 := n6_; clear n0_ n1_ n2_ n3_ n4_ n5_ n6_ hb hbox hg; have hnb54 := NB319_320.out; have hnc54 := NB320_319.out; obtain ⟨hcz55_0, hcz55_1, hcz55_2, hfz55_0, hfz55_1, hfz55_2⟩ := blk_all3 BK319.out) | ((with_reducible refine gate_callee (f := 47) rfl ?_); refine goesL_ (some 11) rfl rfl Try.func47 (by kernel_rfl) rfl #[.agg #[.int .i64 a0_0, .int .i64 a0_1, .slice A0_2 l0_2.length c0_2]] rfl tm_ ?_; (with_reducible refine (spec_l10Copy.calls a0_0 a0_1 _ _ l0_2 t321 t322 t323 _ ?side1 ?side2 A4.out).mono ?_); (case side1 => repeat (first | exact (Kd.C_below HR0_2.out HB.out) | (with_reducible first | apply cA_ | apply cN_ | apply cD_))); (case side2 => exact HC0_2.out); rintro e w56 ⟨v324, rfl, ho0, hb⟩; refine ⟨_, rfl, ?_⟩; have HO325 := As_ (Kd.R_lower ho0 (below_size (zb2_ HB.out GE319.out GE320.out))); replace BK319 := As_ (blk_below (g := gb319) (o := .cells #[.int .i64 a0_0, .int .i64 a0_1, .slice A0_2 l0_2.length c0_2] 24 (0, 0)) (ak_ BK319.out) hb); replace BK320 := As_ (blk_below (g := gb320) (o := .cells #[.int .i64 0, .int .i64 0, .slice none 0 0] 24 (0, 0)) (ak_ BK320.out) hb); replace HB := As_ (below_step (zb2_ HB.out GE319.out GE320.out) hb); (try clear hb); (try clear hb2); (try clear hk); (try clear hi); (try clear ho0)) | ((with_reducible refine gate_dst (N := 8) rfl ?_); refine box_event ?hg (N := 8) ?hd (cs := #[.int .i64 0, .int .i64 0, .slice none 0 0]) (t := 24) ?hr ?_; (case hd => rfl); (case hg => rfl); (case hr => first | (go_simp; done) | (go_simp; rfl)); intro gb326 hg w57 hbox hb; have n0_ := As_ (Kd.R_below (rk_ HO325.out) hb); have n1_ := As_ (blk_below (g := gb319) (o := .cells #[.int .i64 a0_0, .int .i64 a0_1, .slice A0_2 l0_2.length c0_2] 24 (0, 0)) (ak_ BK319.out) hb); have n2_ := As_ (blk_below (g := gb320) (o := .cells #[.int .i64 0, .int .i64 0, .slice none 0 0] 24 (0, 0)) (ak_ BK320.out) hb); have n3_ := As_ (below_step (zb2_ HB.out GE319.out GE320.out) hb); have n4_ := As_ (hbox); have n5_ := As_ ((sb_ hg (zb2_ HB.out GE319.out GE320.out) : w.heap.size ≤ gb326)); have n6_ := As_ ((sb_ hg (zb2_ HB.out GE319.out GE320.out) : w.heap.size ≤ gb326)); have n7_ := As_ ((nl_ hg BK319.out : gb319 ≠ gb326)); have n8_ := As_ ((ng_ hg BK319.out : gb326 ≠ gb319)); have n9_ := As_ ((nl_ hg BK320.out : gb320 ≠ gb326)); have n10_ := As_ ((ng_ hg BK320.out : gb326 ≠ gb320)); clear HO325 BK319 BK320 HB; have HO325 := n0_; have BK319 := n1_; have BK320 := n2_; have HB := n3_; have BK326 := n4_; have GW326 := n5_; have GE326 := n6_; have NB319_326 := n7_; have NB326_319 := n8_; have NB320_326 := n9_; have NB326_320 := n10_; clear n0_ n1_ n2_ n3_ n4_ n5_ n6_ n7_ n8_ n9_ n10_ hb hbox hg; have hnb58 := NB326_319.out; have hnc58 := NB319_326.out; have hnb59 := NB326_320.out; have hnc59 := NB320_326.out; obtain ⟨hcz60_0, hcz60_1, hcz60_2, hfz60_0, hfz60_1, hfz60_2⟩ := blk_all3 BK326.out; obtain ⟨Ao61, co61, eo61⟩ := Kd.R_slice HO325.out; subst eo61; obtain ⟨hcz62_0, hcz62_1, hcz62_2, hfz62_0, hfz62_1, hfz62_2⟩ := blk_all3 BK319.out) | ((with_reducible refine gate_callee (f := 46) rfl ?_); refine goesL_ (some 14) rfl rfl Try.func46 (by kernel_rfl) rfl #[.agg #[.int .i64 a0_0, .int .i64 a0_1, .slice A0_2 l0_2.length c0_2], .int .i64 a1] rfl tm_ ?_; (with_reducible refine (spec_l10At.calls k a0_0 a0_1 _ _ l0_2 a1 t327 _ ?side1 ?side2 A5.out).mono ?_); (case side1 => exact Kd.C_below HR0_2.out (zb3_ HB.out GE319.out GE320.out GE326.out)); (case side2 => exact HC0_2.out); rintro e w63 ⟨rfl, hb⟩; refine ⟨_, rfl, ?_⟩; replace HO325 := As_ (Kd.R_below (rf3_ HO325.out BK326.out) hb); replace BK319 := As_ (blk_below (g := gb319) (o := .cells #[.int .i64 a0_0, .int .i64 a0_1, .slice A0_2 l0_2.length c0_2] 24 (0, 0)) (af_ NB319_326.out BK319.out) hb); replace BK320 := As_ (blk_below (g := gb320) (o := .cells #[.int .i64 0, .int .i64 0, .slice none 0 0] 24 (0, 0)) (af_ NB320_326.out BK320.out) hb); replace BK326 := As_ (blk_below (g := gb326) (o := .cells #[.int .i64 t321, .int .i64 t322, .slice Ao61 t323.length co61] 24 (0, 0)) (ap_ BK326.out) hb); replace HB := As_ (below_step (zb3_ HB.out GE319.out GE320.out GE326.out) hb); (try clear hb); (try clear hb2); (try clear hk); (try clear hi); obtain ⟨hcz64_0, hcz64_1, hcz64_2, hfz64_0, hfz64_1, hfz64_2⟩ := blk_all3 BK319.out) | (go_at_call 22; (with_reducible refine (spec_RoomOf.calls k a0_0 a0_1 _ _ l0_2 a1 t328 _ ?side1 ?side2 A21.out).mono ?_); (case side1 => repeat (first | exact (Kd.C_below HR0_2.out HB.out) | (with_reducible first | apply cA_ | apply cN_ | apply cD_))); (case side2 => exact HC0_2.out); rintro e w65 ⟨rfl, hb⟩; replace HO325 := As_ (Kd.R_below (rk_ HO325.out) hb); replace BK319 := As_ (blk_below (g := gb319) (o := .cells #[.int .i64 a0_0, .int .i64 a0_1, .slice A0_2 l0_2.length c0_2] 24 (0, 0)) (ak_ BK319.out) hb); replace BK320 := As_ (blk_below (g := gb320) (o := .cells #[.int .i64 0, .int .i64 0, .slice none 0 0] 24 (0, 0)) (ak_ BK320.out) hb); replace BK326 := As_ (blk_below (g := gb326) (o := .cells #[.int .i64 t321, .int .i64 t322, .slice Ao61 t323.length co61] 24 (0, 0)) (ak_ BK326.out) hb); replace HB := As_ (below_step (zb3_ HB.out GE319.out GE320.out GE326.out) hb); (try clear hb); (try clear hb2); (try clear hk); (try clear hi)) | (go_at_call 38; (with_reducible refine (spec_l1In.calls a2 0 t328 false _ A22.out).mono ?_); rintro e w' ⟨rfl, ⟨nd, rfl⟩⟩; (try (rw [drewN_self w65]; generalize hq_ : World.drewN w65 _ = w65; replace HO325 : Aside0 (Kd.R k48 48 w65 w.heap.size (fun _ => True) (.slice Ao61 t323.length co61) t323) := ⟨by rw [← hq_]; exact (rk_ HO325.out)⟩; replace BK319 : Aside0 (w65.heap[gb319]? = some (.cells #[.int .i64 a0_0, .int .i64 a0_1, .slice A0_2 l0_2.length c0_2] 24 (0, 0))) := ⟨by rw [← hq_]; exact (ak_ BK319.out)⟩; replace BK320 : Aside0 (w65.heap[gb320]? = some (.cells #[.int .i64 0, .int .i64 0, .slice none 0 0] 24 (0, 0))) := ⟨by rw [← hq_]; exact (ak_ BK320.out)⟩; replace BK326 : Aside0 (w65.heap[gb326]? = some (.cells #[.int .i64 t321, .int .i64 t322, .slice Ao61 t323.length co61] 24 (0, 0))) := ⟨by rw [← hq_]; exact (ak_ BK326.out)⟩; replace HB : Aside0 (Below w.heap.size w w65) := ⟨by rw [← hq_]; exact (zb3_ HB.out GE319.out GE320.out GE326.out)⟩; clear hq_)); obtain ⟨hcz66_0, hcz66_1, hcz66_2, hfz66_0, hfz66_1, hfz66_2⟩ := blk_all3 BK326.out; obtain ⟨hcz67_0, hcz67_1, hcz67_2, hfz67_0, hfz67_1, hfz67_2⟩ := blk_all3 BK320.out))
      refine bodyPost_ret (results_ct rfl _ _ gb320 24 #[.int .i64 t321, .int .i64 t322, .slice Ao61 t323.length co61] (0, 0) _ rfl (ap_ BK320.out) Try.underlying24 rfl (by kernel_rfl)) rfl ?_
      exact ⟨_, by first | rfl | (simp [errW_none, errW_some] <;> rfl) | (simp [*, errW_none, errW_some] <;> rfl), rt3_ HO325.out BK320.out, zb3_ HB.out GE319.out GE320.out GE326.out⟩

end Go.Proofs.Ytejnagdmfooemaa.QFnLanes
