/- Contracts of functions of the translation, each with its pure function; printed by a program of this session (wip/pr.py) over the kit's print; no condition of its own. -/
import Derived.Test.YtjbecmaibifmlaaQFnGatheredx0
import Derived.Test.YtjbecmaibifmlaaQFnGatheredx1
import Derived.Test.YtjbecmaibifmlaaQFnGatheredx2
import Derived.Test.YtjbecmaibifmlaaQFnGatheredx3
namespace Go.Proofs.Ytjbecmaibifmlaa.QFnGathered
open Go.RowKit Go.Proofs.YtjbecmaibifmlaaW.PrintWords Go.Proofs.YtjbecmaibifmlaaW.PrintLast Go.Proofs.YtjbecmaibifmlaaW.PrintMore
attribute [local go_sem] max2_int min2_int max_two min_two max_three min_three max_four min_four   -- for this text's walks alone
set_option linter.unusedVariables false
set_option linter.unusedSimpArgs false

/-! ### spec_Feed: function 25 -/
mutual
def spec_Feed.j0 : Nat → List Int → Bool → Int → Bool → List Int → Int → Int → Int → List Int → Option (Int × Bool × List Int × List Int × Int)
  | 0, _, _, _, _, _, _, _, _, _ => none
  | k + 1, x7, x46, x154000, x154001, x154002, x155000, x155001, x155002, x155003 => if x46 = true then ((spec_l8Copy.f x154000 x154001 x154002).bind fun bt161 => (some (bt161.1, bt161.2.1, bt161.2.2, x7, 2))) else ((spec_l8Copy.f x154000 x154001 x154002).bind fun bt166 => (if x155000 = 1 then ((spec_Unpad.f k x155000 x155001 x155002 x155003).bind fun bt172 => (if bt172.2 = true then (spec_Feed.j1 k x7 x154000 x154001 x154002 x155000 x155001 x155002 x155003 x155002 ((Go.bits .and .i64 x155001 1) != 0) bt172.1) else ((spec_l8Copy.f x154000 x154001 x154002).bind fun bt176 => (some (bt176.1, bt176.2.1, bt176.2.2, x7, 3))))) else (if x155000 = 9 then (if bt166.2.2.length + x155003.length < 140737488355328 then (spec_Feed.j1 k x7 x154000 x154001 x154002 x155000 x155001 x155002 x155003 bt166.1 bt166.2.1 (bt166.2.2 ++ x155003)) else (none)) else (some (bt166.1, bt166.2.1, bt166.2.2, x7, 0)))))
def spec_Feed.j1 : Nat → List Int → Int → Bool → List Int → Int → Int → Int → List Int → Int → Bool → List Int → Option (Int × Bool × List Int × List Int × Int)
  | 0, _, _, _, _, _, _, _, _, _, _, _ => none
  | k + 1, x7, x154000, x154001, x154002, x155000, x155001, x155002, x155003, x172000, x172001, x172002 => if (x172002.length : Int) > 3000 then ((spec_l8Copy.f x154000 x154001 x154002).bind fun bt184 => (some (bt184.1, bt184.2.1, bt184.2.2, x7, 4))) else (if (Go.bits .and .i64 x155001 4) = 0 then (some (x172000, x172001, x172002, x7, 0)) else (some (0, false, ([] : List Int), x172002, 1)))
end
def spec_Feed.f (k : Nat) (a0_0 : Int) (a0_1 : Bool) (l0_2 : List Int) (a1_0 : Int) (a1_1 : Int) (a1_2 : Int) (l1_3 : List Int) : Option (Int × Bool × List Int × List Int × Int) := (some (([] : List Int) : List Int)).bind fun y156 => ((spec_GatherOk.f a0_0 a0_1 l0_2).bind fun t159 => (if t159 = true then ((spec_FrameCode.f k a1_0 a1_1 a1_2 l1_3).bind fun t160 => (if t160 = 0 then (if a0_0 > 0 then (if a1_0 = 9 then (if a1_2 = a0_0 then (if a0_0 = 0 then (spec_Feed.j0 k y156 (a1_0 == 9) a0_0 a0_1 l0_2 a1_0 a1_1 a1_2 l1_3) else (spec_Feed.j0 k y156 false a0_0 a0_1 l0_2 a1_0 a1_1 a1_2 l1_3)) else (spec_Feed.j0 k y156 true a0_0 a0_1 l0_2 a1_0 a1_1 a1_2 l1_3)) else (spec_Feed.j0 k y156 true a0_0 a0_1 l0_2 a1_0 a1_1 a1_2 l1_3)) else (if a0_0 = 0 then (spec_Feed.j0 k y156 (a1_0 == 9) a0_0 a0_1 l0_2 a1_0 a1_1 a1_2 l1_3) else (spec_Feed.j0 k y156 false a0_0 a0_1 l0_2 a1_0 a1_1 a1_2 l1_3))) else (spec_Feed.j0 k y156 true a0_0 a0_1 l0_2 a1_0 a1_1 a1_2 l1_3))) else (spec_Feed.j0 k y156 true a0_0 a0_1 l0_2 a1_0 a1_1 a1_2 l1_3)))
theorem spec_Feed.mono_l : ∀ k, (∀ y0 y1 y2 y3 y4 y5 y6 y7 y8, LeO (spec_Feed.j0 k y0 y1 y2 y3 y4 y5 y6 y7 y8) (spec_Feed.j0 (k + 1) y0 y1 y2 y3 y4 y5 y6 y7 y8)) ∧ (∀ y0 y1 y2 y3 y4 y5 y6 y7 y8 y9 y10, LeO (spec_Feed.j1 k y0 y1 y2 y3 y4 y5 y6 y7 y8 y9 y10) (spec_Feed.j1 (k + 1) y0 y1 y2 y3 y4 y5 y6 y7 y8 y9 y10))
  | 0 => ⟨fun _ _ _ _ _ _ _ _ _ r h => by simp [spec_Feed.j0] at h, fun _ _ _ _ _ _ _ _ _ _ _ r h => by simp [spec_Feed.j1] at h⟩
  | k + 1 => by
    obtain ⟨ih0, ih1⟩ := spec_Feed.mono_l k
    refine ⟨?_, ?_⟩
    · intro y0 y1 y2 y3 y4 y5 y6 y7 y8
      unfold spec_Feed.j0
      repeat' first
      | (with_reducible exact ih0 _ _ _ _ _ _ _ _ _)
      | (with_reducible exact ih1 _ _ _ _ _ _ _ _ _ _ _)
      | (with_reducible exact spec_FrameCode.mono _ _ _ _ _)
      | (with_reducible exact spec_Unpad.mono _ _ _ _ _)
      | (with_reducible exact LeO.refl _)
      | (with_reducible exact LeO.none _)
      | (with_reducible refine LeO.ite ?_ ?_)
      | (with_reducible refine LeO.bind ?_ (fun _ => ?_))
      | exact ih0 _ _ _ _ _ _ _ _ _
      | exact ih1 _ _ _ _ _ _ _ _ _ _ _
      | exact spec_FrameCode.mono _ _ _ _ _
      | exact spec_Unpad.mono _ _ _ _ _
      | exact LeO.none _
      | refine LeO.ite ?_ ?_
      | refine LeO.bind ?_ (fun _ => ?_)
    · intro y0 y1 y2 y3 y4 y5 y6 y7 y8 y9 y10
      unfold spec_Feed.j1
      repeat' first
      | (with_reducible exact ih0 _ _ _ _ _ _ _ _ _)
      | (with_reducible exact ih1 _ _ _ _ _ _ _ _ _ _ _)
      | (with_reducible exact spec_FrameCode.mono _ _ _ _ _)
      | (with_reducible exact spec_Unpad.mono _ _ _ _ _)
      | (with_reducible exact LeO.refl _)
      | (with_reducible exact LeO.none _)
      | (with_reducible refine LeO.ite ?_ ?_)
      | (with_reducible refine LeO.bind ?_ (fun _ => ?_))
      | exact ih0 _ _ _ _ _ _ _ _ _
      | exact ih1 _ _ _ _ _ _ _ _ _ _ _
      | exact spec_FrameCode.mono _ _ _ _ _
      | exact spec_Unpad.mono _ _ _ _ _
      | exact LeO.none _
      | refine LeO.ite ?_ ?_
      | refine LeO.bind ?_ (fun _ => ?_)
theorem spec_Feed.mono : ∀ a0 a1 a2 a3 a4 a5 a6 k, LeO (spec_Feed.f k a0 a1 a2 a3 a4 a5 a6) (spec_Feed.f (k + 1) a0 a1 a2 a3 a4 a5 a6) := by
  intro a0 a1 a2 a3 a4 a5 a6 k
  obtain ⟨ih0, ih1⟩ := spec_Feed.mono_l k
  unfold spec_Feed.f
  repeat' first
      | (with_reducible exact ih0 _ _ _ _ _ _ _ _ _)
      | (with_reducible exact ih1 _ _ _ _ _ _ _ _ _ _ _)
      | (with_reducible exact spec_FrameCode.mono _ _ _ _ _)
      | (with_reducible exact spec_Unpad.mono _ _ _ _ _)
      | (with_reducible exact LeO.refl _)
      | (with_reducible exact LeO.none _)
      | (with_reducible refine LeO.ite ?_ ?_)
      | (with_reducible refine LeO.bind ?_ (fun _ => ?_))
      | exact ih0 _ _ _ _ _ _ _ _ _
      | exact ih1 _ _ _ _ _ _ _ _ _ _ _
      | exact spec_FrameCode.mono _ _ _ _ _
      | exact spec_Unpad.mono _ _ _ _ _
      | exact LeO.none _
      | refine LeO.ite ?_ ?_
      | refine LeO.bind ?_ (fun _ => ?_)
set_option maxHeartbeats 8000000 in
set_option maxRecDepth 100000 in
theorem spec_Feed.calls (k : Nat) (a0_0 : Int) (a0_1 : Bool) (A0_2 : Option Addr) (c0_2 : Nat) (l0_2 : List Int) (a1_0 : Int) (a1_1 : Int) (a1_2 : Int) (A1_3 : Option Addr) (c1_3 : Nat) (l1_3 : List Int) (r1 : Int) (r2 : Bool) (r3 : List Int) (r4 : List Int) (r5 : Int) (w : World) (hr0_2 : Kd.C (Kd.int .u8) w A0_2 l0_2.length l0_2) (hc0_2 : l0_2.length ≤ c0_2) (hr1_3 : Kd.C (Kd.int .u8) w A1_3 l1_3.length l1_3) (hc1_3 : l1_3.length ≤ c1_3) (h : spec_Feed.f k a0_0 a0_1 l0_2 a1_0 a1_1 a1_2 l1_3 = some (r1, r2, r3, r4, r5)) :
    Calls Try.prog 25 #[.agg #[.int .i64 a0_0, .bool a0_1, .slice A0_2 l0_2.length c0_2], .agg #[.int .i64 a1_0, .int .i64 a1_1, .int .i64 a1_2, .slice A1_3 l1_3.length c1_3]] w fun e w' => ∃ v2_ v3_ : Value, e = .returned (.tuple #[.agg #[.int .i64 r1, .bool r2, v2_], v3_, .int .i64 r5]) ∧ Kd.R (Kd.int .u8) 5 w' w.heap.size (fun k_ => some k_ ≠ (v3_ : Value).ownBlock) v2_ r3 ∧ Kd.R (Kd.int .u8) 5 w' w.heap.size (fun k_ => some k_ ≠ (v2_ : Value).ownBlock) v3_ r4 ∧ Below w.heap.size w w' := by
  have hu41 := Try.underlying41
  have hu45 := Try.underlying45
  have HR0_2 := Aside0.mk hr0_2
  have HC0_2 := Aside0.mk hc0_2
  clear hr0_2 hc0_2
  have HR1_3 := Aside0.mk hr1_3
  have HC1_3 := Aside0.mk hc1_3
  clear hr1_3 hc1_3
  have HB := As_ (Below.refl w.heap.size w)
  have H : ((some (([] : List Int) : List Int)).bind fun y156 => ((spec_GatherOk.f a0_0 a0_1 l0_2).bind fun t159 => (if t159 = true then ((spec_FrameCode.f k a1_0 a1_1 a1_2 l1_3).bind fun t160 => (if t160 = 0 then (if a0_0 > 0 then (if a1_0 = 9 then (if a1_2 = a0_0 then (if a0_0 = 0 then (spec_Feed.j0 k y156 (a1_0 == 9) a0_0 a0_1 l0_2 a1_0 a1_1 a1_2 l1_3) else (spec_Feed.j0 k y156 false a0_0 a0_1 l0_2 a1_0 a1_1 a1_2 l1_3)) else (spec_Feed.j0 k y156 true a0_0 a0_1 l0_2 a1_0 a1_1 a1_2 l1_3)) else (spec_Feed.j0 k y156 true a0_0 a0_1 l0_2 a1_0 a1_1 a1_2 l1_3)) else (if a0_0 = 0 then (spec_Feed.j0 k y156 (a1_0 == 9) a0_0 a0_1 l0_2 a1_0 a1_1 a1_2 l1_3) else (spec_Feed.j0 k y156 false a0_0 a0_1 l0_2 a1_0 a1_1 a1_2 l1_3))) else (spec_Feed.j0 k y156 true a0_0 a0_1 l0_2 a1_0 a1_1 a1_2 l1_3))) else (spec_Feed.j0 k y156 true a0_0 a0_1 l0_2 a1_0 a1_1 a1_2 l1_3)))) = some (r1, r2, r3, r4, r5) := h
  clear h
  obtain ⟨y156, hy156⟩ : ∃ y_ : List Int, y_ = (([] : List Int)) := ⟨_, rfl⟩
  replace H : ((spec_GatherOk.f a0_0 a0_1 l0_2).bind fun t159 => (if t159 = true then ((spec_FrameCode.f k a1_0 a1_1 a1_2 l1_3).bind fun t160 => (if t160 = 0 then (if a0_0 > 0 then (if a1_0 = 9 then (if a1_2 = a0_0 then (if a0_0 = 0 then (spec_Feed.j0 k y156 (a1_0 == 9) a0_0 a0_1 l0_2 a1_0 a1_1 a1_2 l1_3) else (spec_Feed.j0 k y156 false a0_0 a0_1 l0_2 a1_0 a1_1 a1_2 l1_3)) else (spec_Feed.j0 k y156 true a0_0 a0_1 l0_2 a1_0 a1_1 a1_2 l1_3)) else (spec_Feed.j0 k y156 true a0_0 a0_1 l0_2 a1_0 a1_1 a1_2 l1_3)) else (if a0_0 = 0 then (spec_Feed.j0 k y156 (a1_0 == 9) a0_0 a0_1 l0_2 a1_0 a1_1 a1_2 l1_3) else (spec_Feed.j0 k y156 false a0_0 a0_1 l0_2 a1_0 a1_1 a1_2 l1_3))) else (spec_Feed.j0 k y156 true a0_0 a0_1 l0_2 a1_0 a1_1 a1_2 l1_3))) else (spec_Feed.j0 k y156 true a0_0 a0_1 l0_2 a1_0 a1_1 a1_2 l1_3))) = some (r1, r2, r3, r4, r5) := by first | (rw [hy156]; with_reducible exact H) | (have H2_ := (Option.bind_some _ _).symm.trans H; rw [hy156]; with_reducible exact H2_) | (have H2_ := (Option.bind_some _ _).symm.trans H; with_reducible exact H2_) | with_reducible exact H | (rw [hy156]; exact H) | exact H
  have Ny156 := Aside0.mk hy156
  clear hy156
  have HC3 := Aside0.mk H
  clear H
  go_enter Try.func25, Try.ntmps25
  go_upto_region 2 with (first | ((with_reducible refine gate_dst (N := 2) rfl ?_); refine box_event ?hg (N := 2) ?hd (cs := #[.int .i64 a0_0, .bool a0_1, .slice A0_2 l0_2.length c0_2]) (t := 41) ?hr ?_; (case hd => rfl); (case hg => rfl); (case hr => first | (go_simp; done) | (go_simp; rfl)); intro gb153 hg w4 hbox hb; have n0_ := As_ (below_step (by repeat (first | (with_reducible first | exact HB.out | apply bA_ | apply bN_ | apply bD_) | exact HB.out)) hb); have n1_ := As_ (hbox); have n2_ := As_ ((by rw [hg]; exact (below_size (by repeat (first | (with_reducible first | exact HB.out | apply bA_ | apply bN_ | apply bD_) | exact HB.out))) : w.heap.size ≤ gb153)); have n3_ := As_ ((by rw [hg]; exact (below_size (by repeat (first | (with_reducible first | exact HB.out | apply bA_ | apply bN_ | apply bD_) | exact HB.out))) : w.heap.size ≤ gb153)); clear HB; have HB := n0_; have BK153 := n1_; have GW153 := n2_; have GE153 := n3_; clear n0_ n1_ n2_ n3_ hb hbox hg) | ((with_reducible refine gate_dst (N := 3) rfl ?_); refine box_event ?hg (N := 3) ?hd (cs := #[.int .i64 a1_0, .int .i64 a1_1, .int .i64 a1_2, .slice A1_3 l1_3.length c1_3]) (t := 45) ?hr ?_; (case hd => rfl); (case hg => rfl); (case hr => first | (go_simp; done) | (go_simp; rfl)); intro gb154 hg w5 hbox hb; have n0_ := As_ (blk_below (g := gb153) (o := .cells #[.int .i64 a0_0, .bool a0_1, .slice A0_2 l0_2.length c0_2] 41 (0, 0)) (by (with_reducible repeat (first | apply kN_ | apply kD_ | apply kA_)); exact BK153.out) hb); have n1_ := As_ (below_step (by repeat (first | (with_reducible first | exact HB.out | apply bA_ | apply bN_ | apply bD_ | refine bS_ ?_ GE153.out) | exact HB.out)) hb); have n2_ := As_ (hbox); have n3_ := As_ ((by rw [hg]; exact (below_size (by repeat (first | (with_reducible first | exact HB.out | apply bA_ | apply bN_ | apply bD_ | refine bS_ ?_ GE153.out) | exact HB.out))) : w.heap.size ≤ gb154)); have n4_ := As_ ((by rw [hg]; exact (below_size (by repeat (first | (with_reducible first | exact HB.out | apply bA_ | apply bN_ | apply bD_ | refine bS_ ?_ GE153.out) | exact HB.out))) : w.heap.size ≤ gb154)); have n5_ := As_ ((by rw [hg]; exact Nat.ne_of_lt (blk_lt (g := gb153) (o := .cells #[.int .i64 a0_0, .bool a0_1, .slice A0_2 l0_2.length c0_2] 41 (0, 0)) (by (with_reducible repeat (first | apply kN_ | apply kD_ | apply kA_)); exact BK153.out)) : gb153 ≠ gb154)); have n6_ := As_ ((by rw [hg]; exact Nat.ne_of_gt (blk_lt (g := gb153) (o := .cells #[.int .i64 a0_0, .bool a0_1, .slice A0_2 l0_2.length c0_2] 41 (0, 0)) (by (with_reducible repeat (first | apply kN_ | apply kD_ | apply kA_)); exact BK153.out)) : gb154 ≠ gb153)); clear BK153 HB; have BK153 := n0_; have HB := n1_; have BK154 := n2_; have GW154 := n3_; have GE154 := n4_; have NB153_154 := n5_; have NB154_153 := n6_; clear n0_ n1_ n2_ n3_ n4_ n5_ n6_ hb hbox hg) | ((with_reducible refine gate_dst (N := 4) rfl ?_); refine box_event ?hg (N := 4) ?hd (cs := #[.int .i64 0, .bool false, .slice none 0 0]) (t := 41) ?hr ?_; (case hd => rfl); (case hg => rfl); (case hr => first | (go_simp; done) | (go_simp; rfl)); intro gb155 hg w6 hbox hb; have n0_ := As_ (blk_below (g := gb153) (o := .cells #[.int .i64 a0_0, .bool a0_1, .slice A0_2 l0_2.length c0_2] 41 (0, 0)) (by (with_reducible repeat (first | apply kN_ | apply kD_ | apply kA_)); exact BK153.out) hb); have n1_ := As_ (blk_below (g := gb154) (o := .cells #[.int .i64 a1_0, .int .i64 a1_1, .int .i64 a1_2, .slice A1_3 l1_3.length c1_3] 45 (0, 0)) (by (with_reducible repeat (first | apply kN_ | apply kD_ | apply kA_)); exact BK154.out) hb); have n2_ := As_ (below_step (by repeat (first | (with_reducible first | exact HB.out | apply bA_ | apply bN_ | apply bD_ | refine bS_ ?_ GE153.out | refine bS_ ?_ GE154.out) | exact HB.out)) hb); have n3_ := As_ (hbox); have n4_ := As_ ((by rw [hg]; exact (below_size (by repeat (first | (with_reducible first | exact HB.out | apply bA_ | apply bN_ | apply bD_ | refine bS_ ?_ GE153.out | refine bS_ ?_ GE154.out) | exact HB.out))) : w.heap.size ≤ gb155)); have n5_ := As_ ((by rw [hg]; exact (below_size (by repeat (first | (with_reducible first | exact HB.out | apply bA_ | apply bN_ | apply bD_ | refine bS_ ?_ GE153.out | refine bS_ ?_ GE154.out) | exact HB.out))) : w.heap.size ≤ gb155)); have n6_ := As_ ((by rw [hg]; exact Nat.ne_of_lt (blk_lt (g := gb153) (o := .cells #[.int .i64 a0_0, .bool a0_1, .slice A0_2 l0_2.length c0_2] 41 (0, 0)) (by (with_reducible repeat (first | apply kN_ | apply kD_ | apply kA_)); exact BK153.out)) : gb153 ≠ gb155)); have n7_ := As_ ((by rw [hg]; exact Nat.ne_of_gt (blk_lt (g := gb153) (o := .cells #[.int .i64 a0_0, .bool a0_1, .slice A0_2 l0_2.length c0_2] 41 (0, 0)) (by (with_reducible repeat (first | apply kN_ | apply kD_ | apply kA_)); exact BK153.out)) : gb155 ≠ gb153)); have n8_ := As_ ((by rw [hg]; exact Nat.ne_of_lt (blk_lt (g := gb154) (o := .cells #[.int .i64 a1_0, .int .i64 a1_1, .int .i64 a1_2, .slice A1_3 l1_3.length c1_3] 45 (0, 0)) (by (with_reducible repeat (first | apply kN_ | apply kD_ | apply kA_)); exact BK154.out)) : gb154 ≠ gb155)); have n9_ := As_ ((by rw [hg]; exact Nat.ne_of_gt (blk_lt (g := gb154) (o := .cells #[.int .i64 a1_0, .int .i64 a1_1, .int .i64 a1_2, .slice A1_3 l1_3.length c1_3] 45 (0, 0)) (by (with_reducible repeat (first | apply kN_ | apply kD_ | apply kA_)); exact BK154.out)) : gb155 ≠ gb154)); clear BK153 BK154 HB; have BK153 := n0_; have BK154 := n1_; have HB := n2_; have BK155 := n3_; have GW155 := n4_; have GE155 := n5_; have NB153_155 := n6_; have NB155_153 := n7_; have NB154_155 := n8_; have NB155_154 := n9_; clear n0_ n1_ n2_ n3_ n4_ n5_ n6_ n7_ n8_ n9_ hb hbox hg) | ((with_reducible refine gate_dst (N := 11) rfl ?_); refine Kd.R_lit (Kd.int .u8) _ 5 ?hg (N := 11) ?hd (xs := ([] : List Int)) (inner := []) (ok := fun _ => True) (okp := fun _ => True) ?hr ?hp (fun _ hk => hk) trivial (Below.refl _ _) (Nat.le_refl _) (by simp) ?_; (case hd => rfl); (case hg => rfl); (case hr => first | (go_simp; done) | (go_simp; rfl)); (case hp => exact (Reps.none _ _)); intro v157 w7 ho8 hb hg_ hnew_; clear hg_ hnew_; (first | rw [← Ny156.out] at ho8 | (simp only [Int.reduceToNat] at ho8; rw [← Ny156.out] at ho8)); have n0_ := As_ (Kd.R_lower ho8 (below_size (by repeat (first | (with_reducible first | exact HB.out | apply bA_ | apply bN_ | apply bD_ | refine bS_ ?_ GE153.out | refine bS_ ?_ GE154.out | refine bS_ ?_ GE155.out) | exact HB.out)))); have n1_ := As_ (blk_below (g := gb153) (o := .cells #[.int .i64 a0_0, .bool a0_1, .slice A0_2 l0_2.length c0_2] 41 (0, 0)) (by (with_reducible repeat (first | apply kN_ | apply kD_ | apply kA_)); exact BK153.out) hb); have n2_ := As_ (blk_below (g := gb154) (o := .cells #[.int .i64 a1_0, .int .i64 a1_1, .int .i64 a1_2, .slice A1_3 l1_3.length c1_3] 45 (0, 0)) (by (with_reducible repeat (first | apply kN_ | apply kD_ | apply kA_)); exact BK154.out) hb); have n3_ := As_ (blk_below (g := gb155) (o := .cells #[.int .i64 0, .bool false, .slice none 0 0] 41 (0, 0)) (by (with_reducible repeat (first | apply kN_ | apply kD_ | apply kA_)); exact BK155.out) hb); have n4_ := As_ (below_step (by repeat (first | (with_reducible first | exact HB.out | apply bA_ | apply bN_ | apply bD_ | refine bS_ ?_ GE153.out | refine bS_ ?_ GE154.out | refine bS_ ?_ GE155.out) | exact HB.out)) hb); clear BK153 BK154 BK155 HB; have HO158 := n0_; have BK153 := n1_; have BK154 := n2_; have BK155 := n3_; have HB := n4_; clear n0_ n1_ n2_ n3_ n4_ hb ho8))
  (try simp only [Act.put, List.setIfInBounds_toArray, List.set_cons_zero, List.set_cons_succ])
  go_cut [46] (fun v46 wc => ∃ (kq : Nat) (x46_2 : Bool), v46 = .bool x46_2 ∧ Aside0 (spec_Feed.j0 kq y156 x46_2 a0_0 a0_1 l0_2 a1_0 a1_1 a1_2 l1_3 = some (r1, r2, r3, r4, r5)) ∧ Aside0 (kq ≤ k) ∧ Aside0 (Kd.R (Kd.int .u8) 5 wc w.heap.size (fun _ => True) v157 y156) ∧ Aside0 (wc.heap[gb153]? = some (.cells #[.int .i64 a0_0, .bool a0_1, (.slice A0_2 l0_2.length c0_2)] 41 (0, 0))) ∧ Aside0 (wc.heap[gb154]? = some (.cells #[.int .i64 a1_0, .int .i64 a1_1, .int .i64 a1_2, (.slice A1_3 l1_3.length c1_3)] 45 (0, 0))) ∧ Aside0 (wc.heap[gb155]? = some (.cells #[.int .i64 0, .bool false, (.slice none 0 0)] 41 (0, 0))) ∧ Aside0 (Below w.heap.size w wc))
  case first =>
    have H := HC3.out
    clear HC3
    replace H := Option.bind_eq_some_iff.mp H
    obtain ⟨t159, A90, H⟩ := H
    replace H : (if t159 = true then ((spec_FrameCode.f k a1_0 a1_1 a1_2 l1_3).bind fun t160 => (if t160 = 0 then (if a0_0 > 0 then (if a1_0 = 9 then (if a1_2 = a0_0 then (if a0_0 = 0 then (spec_Feed.j0 k y156 (a1_0 == 9) a0_0 a0_1 l0_2 a1_0 a1_1 a1_2 l1_3) else (spec_Feed.j0 k y156 false a0_0 a0_1 l0_2 a1_0 a1_1 a1_2 l1_3)) else (spec_Feed.j0 k y156 true a0_0 a0_1 l0_2 a1_0 a1_1 a1_2 l1_3)) else (spec_Feed.j0 k y156 true a0_0 a0_1 l0_2 a1_0 a1_1 a1_2 l1_3)) else (if a0_0 = 0 then (spec_Feed.j0 k y156 (a1_0 == 9) a0_0 a0_1 l0_2 a1_0 a1_1 a1_2 l1_3) else (spec_Feed.j0 k y156 false a0_0 a0_1 l0_2 a1_0 a1_1 a1_2 l1_3))) else (spec_Feed.j0 k y156 true a0_0 a0_1 l0_2 a1_0 a1_1 a1_2 l1_3))) else (spec_Feed.j0 k y156 true a0_0 a0_1 l0_2 a1_0 a1_1 a1_2 l1_3)) = some (r1, r2, r3, r4, r5) := H
    have A9 := Aside0.mk A90
    clear A90
    by_cases c10 : t159 = true
    · subst c10
      have H1 : ((spec_FrameCode.f k a1_0 a1_1 a1_2 l1_3).bind fun t160 => (if t160 = 0 then (if a0_0 > 0 then (if a1_0 = 9 then (if a1_2 = a0_0 then (if a0_0 = 0 then (spec_Feed.j0 k y156 (a1_0 == 9) a0_0 a0_1 l0_2 a1_0 a1_1 a1_2 l1_3) else (spec_Feed.j0 k y156 false a0_0 a0_1 l0_2 a1_0 a1_1 a1_2 l1_3)) else (spec_Feed.j0 k y156 true a0_0 a0_1 l0_2 a1_0 a1_1 a1_2 l1_3)) else (spec_Feed.j0 k y156 true a0_0 a0_1 l0_2 a1_0 a1_1 a1_2 l1_3)) else (if a0_0 = 0 then (spec_Feed.j0 k y156 (a1_0 == 9) a0_0 a0_1 l0_2 a1_0 a1_1 a1_2 l1_3) else (spec_Feed.j0 k y156 false a0_0 a0_1 l0_2 a1_0 a1_1 a1_2 l1_3))) else (spec_Feed.j0 k y156 true a0_0 a0_1 l0_2 a1_0 a1_1 a1_2 l1_3))) = some (r1, r2, r3, r4, r5) := by rw [if_pos rfl] at H; exact H
      clear H
      have H := H1
      clear H1
      replace H := Option.bind_eq_some_iff.mp H
      obtain ⟨t160, A110, H⟩ := H
      replace H : (if t160 = 0 then (if a0_0 > 0 then (if a1_0 = 9 then (if a1_2 = a0_0 then (if a0_0 = 0 then (spec_Feed.j0 k y156 (a1_0 == 9) a0_0 a0_1 l0_2 a1_0 a1_1 a1_2 l1_3) else (spec_Feed.j0 k y156 false a0_0 a0_1 l0_2 a1_0 a1_1 a1_2 l1_3)) else (spec_Feed.j0 k y156 true a0_0 a0_1 l0_2 a1_0 a1_1 a1_2 l1_3)) else (spec_Feed.j0 k y156 true a0_0 a0_1 l0_2 a1_0 a1_1 a1_2 l1_3)) else (if a0_0 = 0 then (spec_Feed.j0 k y156 (a1_0 == 9) a0_0 a0_1 l0_2 a1_0 a1_1 a1_2 l1_3) else (spec_Feed.j0 k y156 false a0_0 a0_1 l0_2 a1_0 a1_1 a1_2 l1_3))) else (spec_Feed.j0 k y156 true a0_0 a0_1 l0_2 a1_0 a1_1 a1_2 l1_3)) = some (r1, r2, r3, r4, r5) := H
      have A11 := Aside0.mk A110
      clear A110
      by_cases c12 : t160 = 0
      · rw [if_pos c12] at H
        have c12b0 : (t160 == 0) = true := beq_iff_eq.mpr c12
        have c12b1 : (t160 != 0) = false := bne_eq_false_iff_eq.mpr c12
        clear c12
        (first | rw [c12b0] | (simp only [i64_w, i32_w]; rw [c12b0]) | skip)
        by_cases c13 : a0_0 > 0
        · rw [if_pos c13] at H
          have c13b0 : decide (0 < a0_0) = true := decide_eq_true c13
          clear c13
          by_cases c14 : a1_0 = 9
          · rw [if_pos c14] at H
            have c14b0 : (a1_0 == 9) = true := beq_iff_eq.mpr c14
            have c14b1 : (a1_0 != 9) = false := bne_eq_false_iff_eq.mpr c14
            clear c14
            by_cases c15 : a1_2 = a0_0
            · rw [if_pos c15] at H
              have c15b0 : (a1_2 == a0_0) = true := beq_iff_eq.mpr c15
              have c15b1 : (a1_2 != a0_0) = false := bne_eq_false_iff_eq.mpr c15
              clear c15
              by_cases c16 : a0_0 = 0
              · rw [if_pos c16] at H
                have c16b0 : (a0_0 == 0) = true := beq_iff_eq.mpr c16
                have c16b1 : (a0_0 != 0) = false := bne_eq_false_iff_eq.mpr c16
                clear c16
                have H' := Aside0.mk H
                clear H
                have hnb17 := NB153_154.out
                have hnc17 := NB154_153.out
                have hnb18 := NB153_155.out
                have hnc18 := NB155_153.out
                obtain ⟨hcz19_0, hcz19_1, hcz19_2, hfz19_0, hfz19_1, hfz19_2⟩ := blk_all3 BK153.out
                go_wp2_with (first | ((with_reducible refine gate_callee (f := 54) rfl ?_); refine goesL_ (some 13) rfl rfl Try.func54 (by kernel_rfl) rfl #[.agg #[.int .i64 a0_0, .bool a0_1, .slice A0_2 l0_2.length c0_2]] rfl (by (try simp only [List.map_toArray, List.map_cons, List.map_nil]); first | done | rfl | (simp only [List.length_drop, List.length_take]; rfl)) ?_; (with_reducible refine (spec_GatherOk.calls a0_0 a0_1 _ _ l0_2 true _ ?side1 ?side2 A9.out).mono ?_); (case side1 => repeat (first | exact (Kd.C_below HR0_2.out HB.out) | (with_reducible first | apply cA_ | apply cN_ | apply cD_))); (case side2 => exact HC0_2.out); rintro e w20 ⟨rfl, hb⟩; refine ⟨_, rfl, ?_⟩; replace HO158 := As_ (Kd.R_below (by (with_reducible repeat (first | apply rA_ | apply rN_ | apply rD_)); exact HO158.out) hb); replace BK153 := As_ (blk_below (g := gb153) (o := .cells #[.int .i64 a0_0, .bool a0_1, .slice A0_2 l0_2.length c0_2] 41 (0, 0)) (by (with_reducible repeat (first | apply kN_ | apply kD_ | apply kA_)); exact BK153.out) hb); replace BK154 := As_ (blk_below (g := gb154) (o := .cells #[.int .i64 a1_0, .int .i64 a1_1, .int .i64 a1_2, .slice A1_3 l1_3.length c1_3] 45 (0, 0)) (by (with_reducible repeat (first | apply kN_ | apply kD_ | apply kA_)); exact BK154.out) hb); replace BK155 := As_ (blk_below (g := gb155) (o := .cells #[.int .i64 0, .bool false, .slice none 0 0] 41 (0, 0)) (by (with_reducible repeat (first | apply kN_ | apply kD_ | apply kA_)); exact BK155.out) hb); replace HB := As_ (below_step (by repeat (first | (with_reducible first | exact HB.out | apply bA_ | apply bN_ | apply bD_ | refine bS_ ?_ GE153.out | refine bS_ ?_ GE154.out | refine bS_ ?_ GE155.out) | exact HB.out)) hb); (try clear hb); (try clear hb2); (try clear hk); (try clear hi); have hnb21 := NB154_155.out; have hnc21 := NB155_154.out; obtain ⟨hcz22_0, hcz22_1, hcz22_2, hcz22_3, hfz22_0, hfz22_1, hfz22_2, hfz22_3⟩ := blk_all4 BK154.out) | (go_at_call 55; (with_reducible refine (spec_FrameCode.calls k a1_0 a1_1 a1_2 _ _ l1_3 t160 _ ?side1 ?side2 A11.out).mono ?_); (case side1 => repeat (first | exact (Kd.C_below HR1_3.out HB.out) | (with_reducible first | apply cA_ | apply cN_ | apply cD_))); (case side2 => exact HC1_3.out); rintro e w23 ⟨rfl, hb⟩; replace HO158 := As_ (Kd.R_below (by (with_reducible repeat (first | apply rA_ | apply rN_ | apply rD_)); exact HO158.out) hb); replace BK153 := As_ (blk_below (g := gb153) (o := .cells #[.int .i64 a0_0, .bool a0_1, .slice A0_2 l0_2.length c0_2] 41 (0, 0)) (by (with_reducible repeat (first | apply kN_ | apply kD_ | apply kA_)); exact BK153.out) hb); replace BK154 := As_ (blk_below (g := gb154) (o := .cells #[.int .i64 a1_0, .int .i64 a1_1, .int .i64 a1_2, .slice A1_3 l1_3.length c1_3] 45 (0, 0)) (by (with_reducible repeat (first | apply kN_ | apply kD_ | apply kA_)); exact BK154.out) hb); replace BK155 := As_ (blk_below (g := gb155) (o := .cells #[.int .i64 0, .bool false, .slice none 0 0] 41 (0, 0)) (by (with_reducible repeat (first | apply kN_ | apply kD_ | apply kA_)); exact BK155.out) hb); replace HB := As_ (below_step (by repeat (first | (with_reducible first | exact HB.out | apply bA_ | apply bN_ | apply bD_ | refine bS_ ?_ GE153.out | refine bS_ ?_ GE154.out | refine bS_ ?_ GE155.out) | exact HB.out)) hb); (try clear hb); (try clear hb2); (try clear hk); (try clear hi); obtain ⟨hcz24_0, hcz24_1, hcz24_2, hfz24_0, hfz24_1, hfz24_2⟩ := blk_all3 BK153.out; obtain ⟨hcz25_0, hcz25_1, hcz25_2, hcz25_3, hfz25_0, hfz25_1, hfz25_2, hfz25_3⟩ := blk_all4 BK154.out))
                go_meet
                case rel => exact ⟨_, ((a1_0 == 9)), (by first | rfl | (simp; done) | (simp [*]; done)), H', ⟨by first | omega | exact Nat.le_refl _⟩, ⟨by (with_reducible repeat (first | apply rA_ | apply rN_ | apply rD_)); exact HO158.out⟩, ⟨by (with_reducible repeat (first | apply kN_ | apply kD_ | apply kA_)); exact BK153.out⟩, ⟨by (with_reducible repeat (first | apply kN_ | apply kD_ | apply kA_)); exact BK154.out⟩, ⟨by (with_reducible repeat (first | apply kN_ | apply kD_ | apply kA_)); exact BK155.out⟩, ⟨by repeat (first | (with_reducible first | exact HB.out | apply bA_ | apply bN_ | apply bD_ | refine bS_ ?_ GE153.out | refine bS_ ?_ GE154.out | refine bS_ ?_ GE155.out) | exact HB.out)⟩⟩
              · rw [if_neg c16] at H
                have c16b0 : (a0_0 == 0) = false := beq_eq_false_iff_ne.mpr c16
                have c16b1 : (a0_0 != 0) = true := bne_iff_ne.mpr c16
                have H' := Aside0.mk H
                clear H
                have hnb26 := NB153_154.out
                have hnc26 := NB154_153.out
                have hnb27 := NB153_155.out
                have hnc27 := NB155_153.out
                obtain ⟨hcz28_0, hcz28_1, hcz28_2, hfz28_0, hfz28_1, hfz28_2⟩ := blk_all3 BK153.out
                go_wp2_with (first | ((with_reducible refine gate_callee (f := 54) rfl ?_); refine goesL_ (some 13) rfl rfl Try.func54 (by kernel_rfl) rfl #[.agg #[.int .i64 a0_0, .bool a0_1, .slice A0_2 l0_2.length c0_2]] rfl (by (try simp only [List.map_toArray, List.map_cons, List.map_nil]); first | done | rfl | (simp only [List.length_drop, List.length_take]; rfl)) ?_; (with_reducible refine (spec_GatherOk.calls a0_0 a0_1 _ _ l0_2 true _ ?side1 ?side2 A9.out).mono ?_); (case side1 => repeat (first | exact (Kd.C_below HR0_2.out HB.out) | (with_reducible first | apply cA_ | apply cN_ | apply cD_))); (case side2 => exact HC0_2.out); rintro e w29 ⟨rfl, hb⟩; refine ⟨_, rfl, ?_⟩; replace HO158 := As_ (Kd.R_below (by (with_reducible repeat (first | apply rA_ | apply rN_ | apply rD_)); exact HO158.out) hb); replace BK153 := As_ (blk_below (g := gb153) (o := .cells #[.int .i64 a0_0, .bool a0_1, .slice A0_2 l0_2.length c0_2] 41 (0, 0)) (by (with_reducible repeat (first | apply kN_ | apply kD_ | apply kA_)); exact BK153.out) hb); replace BK154 := As_ (blk_below (g := gb154) (o := .cells #[.int .i64 a1_0, .int .i64 a1_1, .int .i64 a1_2, .slice A1_3 l1_3.length c1_3] 45 (0, 0)) (by (with_reducible repeat (first | apply kN_ | apply kD_ | apply kA_)); exact BK154.out) hb); replace BK155 := As_ (blk_below (g := gb155) (o := .cells #[.int .i64 0, .bool false, .slice none 0 0] 41 (0, 0)) (by (with_reducible repeat (first | apply kN_ | apply kD_ | apply kA_)); exact BK155.out) hb); replace HB := As_ (below_step (by repeat (first | (with_reducible first | exact HB.out | apply bA_ | apply bN_ | apply bD_ | refine bS_ ?_ GE153.out | refine bS_ ?_ GE154.out | refine bS_ ?_ GE155.out) | exact HB.out)) hb); (try clear hb); (try clear hb2); (try clear hk); (try clear hi); have hnb30 := NB154_155.out; have hnc30 := NB155_154.out; obtain ⟨hcz31_0, hcz31_1, hcz31_2, hcz31_3, hfz31_0, hfz31_1, hfz31_2, hfz31_3⟩ := blk_all4 BK154.out) | (go_at_call 55; (with_reducible refine (spec_FrameCode.calls k a1_0 a1_1 a1_2 _ _ l1_3 t160 _ ?side1 ?side2 A11.out).mono ?_); (case side1 => repeat (first | exact (Kd.C_below HR1_3.out HB.out) | (with_reducible first | apply cA_ | apply cN_ | apply cD_))); (case side2 => exact HC1_3.out); rintro e w32 ⟨rfl, hb⟩; replace HO158 := As_ (Kd.R_below (by (with_reducible repeat (first | apply rA_ | apply rN_ | apply rD_)); exact HO158.out) hb); replace BK153 := As_ (blk_below (g := gb153) (o := .cells #[.int .i64 a0_0, .bool a0_1, .slice A0_2 l0_2.length c0_2] 41 (0, 0)) (by (with_reducible repeat (first | apply kN_ | apply kD_ | apply kA_)); exact BK153.out) hb); replace BK154 := As_ (blk_below (g := gb154) (o := .cells #[.int .i64 a1_0, .int .i64 a1_1, .int .i64 a1_2, .slice A1_3 l1_3.length c1_3] 45 (0, 0)) (by (with_reducible repeat (first | apply kN_ | apply kD_ | apply kA_)); exact BK154.out) hb); replace BK155 := As_ (blk_below (g := gb155) (o := .cells #[.int .i64 0, .bool false, .slice none 0 0] 41 (0, 0)) (by (with_reducible repeat (first | apply kN_ | apply kD_ | apply kA_)); exact BK155.out) hb); replace HB := As_ (below_step (by repeat (first | (with_reducible first | exact HB.out | apply bA_ | apply bN_ | apply bD_ | refine bS_ ?_ GE153.out | refine bS_ ?_ GE154.out | refine bS_ ?_ GE155.out) | exact HB.out)) hb); (try clear hb); (try clear hb2); (try clear hk); (try clear hi); obtain ⟨hcz33_0, hcz33_1, hcz33_2, hfz33_0, hfz33_1, hfz33_2⟩ := blk_all3 BK153.out; obtain ⟨hcz34_0, hcz34_1, hcz34_2, hcz34_3, hfz34_0, hfz34_1, hfz34_2, hfz34_3⟩ := blk_all4 BK154.out))
                go_meet
                case rel => exact ⟨_, (false), (by first | rfl | (simp; done) | (simp [*]; done)), H', ⟨by first | omega | exact Nat.le_refl _⟩, ⟨by (with_reducible repeat (first | apply rA_ | apply rN_ | apply rD_)); exact HO158.out⟩, ⟨by (with_reducible repeat (first | apply kN_ | apply kD_ | apply kA_)); exact BK153.out⟩, ⟨by (with_reducible repeat (first | apply kN_ | apply kD_ | apply kA_)); exact BK154.out⟩, ⟨by (with_reducible repeat (first | apply kN_ | apply kD_ | apply kA_)); exact BK155.out⟩, ⟨by repeat (first | (with_reducible first | exact HB.out | apply bA_ | apply bN_ | apply bD_ | refine bS_ ?_ GE153.out | refine bS_ ?_ GE154.out | refine bS_ ?_ GE155.out) | exact HB.out)⟩⟩
            · rw [if_neg c15] at H
              have c15b0 : (a1_2 == a0_0) = false := beq_eq_false_iff_ne.mpr c15
              have c15b1 : (a1_2 != a0_0) = true := bne_iff_ne.mpr c15
              have H' := Aside0.mk H
              clear H
              have hnb35 := NB153_154.out
              have hnc35 := NB154_153.out
              have hnb36 := NB153_155.out
              have hnc36 := NB155_153.out
              obtain ⟨hcz37_0, hcz37_1, hcz37_2, hfz37_0, hfz37_1, hfz37_2⟩ := blk_all3 BK153.out
              go_wp2_with (first | ((with_reducible refine gate_callee (f := 54) rfl ?_); refine goesL_ (some 13) rfl rfl Try.func54 (by kernel_rfl) rfl #[.agg #[.int .i64 a0_0, .bool a0_1, .slice A0_2 l0_2.length c0_2]] rfl (by (try simp only [List.map_toArray, List.map_cons, List.map_nil]); first | done | rfl | (simp only [List.length_drop, List.length_take]; rfl)) ?_; (with_reducible refine (spec_GatherOk.calls a0_0 a0_1 _ _ l0_2 true _ ?side1 ?side2 A9.out).mono ?_); (case side1 => repeat (first | exact (Kd.C_below HR0_2.out HB.out) | (with_reducible first | apply cA_ | apply cN_ | apply cD_))); (case side2 => exact HC0_2.out); rintro e w38 ⟨rfl, hb⟩; refine ⟨_, rfl, ?_⟩; replace HO158 := As_ (Kd.R_below (by (with_reducible repeat (first | apply rA_ | apply rN_ | apply rD_)); exact HO158.out) hb); replace BK153 := As_ (blk_below (g := gb153) (o := .cells #[.int .i64 a0_0, .bool a0_1, .slice A0_2 l0_2.length c0_2] 41 (0, 0)) (by (with_reducible repeat (first | apply kN_ | apply kD_ | apply kA_)); exact BK153.out) hb); replace BK154 := As_ (blk_below (g := gb154) (o := .cells #[.int .i64 a1_0, .int .i64 a1_1, .int .i64 a1_2, .slice A1_3 l1_3.length c1_3] 45 (0, 0)) (by (with_reducible repeat (first | apply kN_ | apply kD_ | apply kA_)); exact BK154.out) hb); replace BK155 := As_ (blk_below (g := gb155) (o := .cells #[.int .i64 0, .bool false, .slice none 0 0] 41 (0, 0)) (by (with_reducible repeat (first | apply kN_ | apply kD_ | apply kA_)); exact BK155.out) hb); replace HB := As_ (below_step (by repeat (first | (with_reducible first | exact HB.out | apply bA_ | apply bN_ | apply bD_ | refine bS_ ?_ GE153.out | refine bS_ ?_ GE154.out | refine bS_ ?_ GE155.out) | exact HB.out)) hb); (try clear hb); (try clear hb2); (try clear hk); (try clear hi); have hnb39 := NB154_155.out; have hnc39 := NB155_154.out; obtain ⟨hcz40_0, hcz40_1, hcz40_2, hcz40_3, hfz40_0, hfz40_1, hfz40_2, hfz40_3⟩ := blk_all4 BK154.out) | (go_at_call 55; (with_reducible refine (spec_FrameCode.calls k a1_0 a1_1 a1_2 _ _ l1_3 t160 _ ?side1 ?side2 A11.out).mono ?_); (case side1 => repeat (first | exact (Kd.C_below HR1_3.out HB.out) | (with_reducible first | apply cA_ | apply cN_ | apply cD_))); (case side2 => exact HC1_3.out); rintro e w41 ⟨rfl, hb⟩; replace HO158 := As_ (Kd.R_below (by (with_reducible repeat (first | apply rA_ | apply rN_ | apply rD_)); exact HO158.out) hb); replace BK153 := As_ (blk_below (g := gb153) (o := .cells #[.int .i64 a0_0, .bool a0_1, .slice A0_2 l0_2.length c0_2] 41 (0, 0)) (by (with_reducible repeat (first | apply kN_ | apply kD_ | apply kA_)); exact BK153.out) hb); replace BK154 := As_ (blk_below (g := gb154) (o := .cells #[.int .i64 a1_0, .int .i64 a1_1, .int .i64 a1_2, .slice A1_3 l1_3.length c1_3] 45 (0, 0)) (by (with_reducible repeat (first | apply kN_ | apply kD_ | apply kA_)); exact BK154.out) hb); replace BK155 := As_ (blk_below (g := gb155) (o := .cells #[.int .i64 0, .bool false, .slice none 0 0] 41 (0, 0)) (by (with_reducible repeat (first | apply kN_ | apply kD_ | apply kA_)); exact BK155.out) hb); replace HB := As_ (below_step (by repeat (first | (with_reducible first | exact HB.out | apply bA_ | apply bN_ | apply bD_ | refine bS_ ?_ GE153.out | refine bS_ ?_ GE154.out | refine bS_ ?_ GE155.out) | exact HB.out)) hb); (try clear hb); (try clear hb2); (try clear hk); (try clear hi); obtain ⟨hcz42_0, hcz42_1, hcz42_2, hfz42_0, hfz42_1, hfz42_2⟩ := blk_all3 BK153.out; obtain ⟨hcz43_0, hcz43_1, hcz43_2, hcz43_3, hfz43_0, hfz43_1, hfz43_2, hfz43_3⟩ := blk_all4 BK154.out))
              go_meet
              case rel => exact ⟨_, (true), (by first | rfl | (simp; done) | (simp [*]; done)), H', ⟨by first | omega | exact Nat.le_refl _⟩, ⟨by (with_reducible repeat (first | apply rA_ | apply rN_ | apply rD_)); exact HO158.out⟩, ⟨by (with_reducible repeat (first | apply kN_ | apply kD_ | apply kA_)); exact BK153.out⟩, ⟨by (with_reducible repeat (first | apply kN_ | apply kD_ | apply kA_)); exact BK154.out⟩, ⟨by (with_reducible repeat (first | apply kN_ | apply kD_ | apply kA_)); exact BK155.out⟩, ⟨by repeat (first | (with_reducible first | exact HB.out | apply bA_ | apply bN_ | apply bD_ | refine bS_ ?_ GE153.out | refine bS_ ?_ GE154.out | refine bS_ ?_ GE155.out) | exact HB.out)⟩⟩
          · rw [if_neg c14] at H
            have c14b0 : (a1_0 == 9) = false := beq_eq_false_iff_ne.mpr c14
            have c14b1 : (a1_0 != 9) = true := bne_iff_ne.mpr c14
            have H' := Aside0.mk H
            clear H
            have hnb44 := NB153_154.out
            have hnc44 := NB154_153.out
            have hnb45 := NB153_155.out
            have hnc45 := NB155_153.out
            obtain ⟨hcz46_0, hcz46_1, hcz46_2, hfz46_0, hfz46_1, hfz46_2⟩ := blk_all3 BK153.out
            go_wp2_with (first | ((with_reducible refine gate_callee (f := 54) rfl ?_); refine goesL_ (some 13) rfl rfl Try.func54 (by kernel_rfl) rfl #[.agg #[.int .i64 a0_0, .bool a0_1, .slice A0_2 l0_2.length c0_2]] rfl (by (try simp only [List.map_toArray, List.map_cons, List.map_nil]); first | done | rfl | (simp only [List.length_drop, List.length_take]; rfl)) ?_; (with_reducible refine (spec_GatherOk.calls a0_0 a0_1 _ _ l0_2 true _ ?side1 ?side2 A9.out).mono ?_); (case side1 => repeat (first | exact (Kd.C_below HR0_2.out HB.out) | (with_reducible first | apply cA_ | apply cN_ | apply cD_))); (case side2 => exact HC0_2.out); rintro e w47 ⟨rfl, hb⟩; refine ⟨_, rfl, ?_⟩; replace HO158 := As_ (Kd.R_below (by (with_reducible repeat (first | apply rA_ | apply rN_ | apply rD_)); exact HO158.out) hb); replace BK153 := As_ (blk_below (g := gb153) (o := .cells #[.int .i64 a0_0, .bool a0_1, .slice A0_2 l0_2.length c0_2] 41 (0, 0)) (by (with_reducible repeat (first | apply kN_ | apply kD_ | apply kA_)); exact BK153.out) hb); replace BK154 := As_ (blk_below (g := gb154) (o := .cells #[.int .i64 a1_0, .int .i64 a1_1, .int .i64 a1_2, .slice A1_3 l1_3.length c1_3] 45 (0, 0)) (by (with_reducible repeat (first | apply kN_ | apply kD_ | apply kA_)); exact BK154.out) hb); replace BK155 := As_ (blk_below (g := gb155) (o := .cells #[.int .i64 0, .bool false, .slice none 0 0] 41 (0, 0)) (by (with_reducible repeat (first | apply kN_ | apply kD_ | apply kA_)); exact BK155.out) hb); replace HB := As_ (below_step (by repeat (first | (with_reducible first | exact HB.out | apply bA_ | apply bN_ | apply bD_ | refine bS_ ?_ GE153.out | refine bS_ ?_ GE154.out | refine bS_ ?_ GE155.out) | exact HB.out)) hb); (try clear hb); (try clear hb2); (try clear hk); (try clear hi); have hnb48 := NB154_155.out; have hnc48 := NB155_154.out; obtain ⟨hcz49_0, hcz49_1, hcz49_2, hcz49_3, hfz49_0, hfz49_1, hfz49_2, hfz49_3⟩ := blk_all4 BK154.out) | (go_at_call 55; (with_reducible refine (spec_FrameCode.calls k a1_0 a1_1 a1_2 _ _ l1_3 t160 _ ?side1 ?side2 A11.out).mono ?_); (case side1 => repeat (first | exact (Kd.C_below HR1_3.out HB.out) | (with_reducible first | apply cA_ | apply cN_ | apply cD_))); (case side2 => exact HC1_3.out); rintro e w50 ⟨rfl, hb⟩; replace HO158 := As_ (Kd.R_below (by (with_reducible repeat (first | apply rA_ | apply rN_ | apply rD_)); exact HO158.out) hb); replace BK153 := As_ (blk_below (g := gb153) (o := .cells #[.int .i64 a0_0, .bool a0_1, .slice A0_2 l0_2.length c0_2] 41 (0, 0)) (by (with_reducible repeat (first | apply kN_ | apply kD_ | apply kA_)); exact BK153.out) hb); replace BK154 := As_ (blk_below (g := gb154) (o := .cells #[.int .i64 a1_0, .int .i64 a1_1, .int .i64 a1_2, .slice A1_3 l1_3.length c1_3] 45 (0, 0)) (by (with_reducible repeat (first | apply kN_ | apply kD_ | apply kA_)); exact BK154.out) hb); replace BK155 := As_ (blk_below (g := gb155) (o := .cells #[.int .i64 0, .bool false, .slice none 0 0] 41 (0, 0)) (by (with_reducible repeat (first | apply kN_ | apply kD_ | apply kA_)); exact BK155.out) hb); replace HB := As_ (below_step (by repeat (first | (with_reducible first | exact HB.out | apply bA_ | apply bN_ | apply bD_ | refine bS_ ?_ GE153.out | refine bS_ ?_ GE154.out | refine bS_ ?_ GE155.out) | exact HB.out)) hb); (try clear hb); (try clear hb2); (try clear hk); (try clear hi); obtain ⟨hcz51_0, hcz51_1, hcz51_2, hfz51_0, hfz51_1, hfz51_2⟩ := blk_all3 BK153.out; obtain ⟨hcz52_0, hcz52_1, hcz52_2, hcz52_3, hfz52_0, hfz52_1, hfz52_2, hfz52_3⟩ := blk_all4 BK154.out))
            go_meet
            case rel => exact ⟨_, (true), (by first | rfl | (simp; done) | (simp [*]; done)), H', ⟨by first | omega | exact Nat.le_refl _⟩, ⟨by (with_reducible repeat (first | apply rA_ | apply rN_ | apply rD_)); exact HO158.out⟩, ⟨by (with_reducible repeat (first | apply kN_ | apply kD_ | apply kA_)); exact BK153.out⟩, ⟨by (with_reducible repeat (first | apply kN_ | apply kD_ | apply kA_)); exact BK154.out⟩, ⟨by (with_reducible repeat (first | apply kN_ | apply kD_ | apply kA_)); exact BK155.out⟩, ⟨by repeat (first | (with_reducible first | exact HB.out | apply bA_ | apply bN_ | apply bD_ | refine bS_ ?_ GE153.out | refine bS_ ?_ GE154.out | refine bS_ ?_ GE155.out) | exact HB.out)⟩⟩
        · rw [if_neg c13] at H
          have c13b0 : decide (0 < a0_0) = false := decide_eq_false c13
          clear c13
          by_cases c53 : a0_0 = 0
          · rw [if_pos c53] at H
            have c53b0 : (a0_0 == 0) = true := beq_iff_eq.mpr c53
            have c53b1 : (a0_0 != 0) = false := bne_eq_false_iff_eq.mpr c53
            clear c53
            have H' := Aside0.mk H
            clear H
            have hnb54 := NB153_154.out
            have hnc54 := NB154_153.out
            have hnb55 := NB153_155.out
            have hnc55 := NB155_153.out
            obtain ⟨hcz56_0, hcz56_1, hcz56_2, hfz56_0, hfz56_1, hfz56_2⟩ := blk_all3 BK153.out
            go_wp2_with (first | ((with_reducible refine gate_callee (f := 54) rfl ?_); refine goesL_ (some 13) rfl rfl Try.func54 (by kernel_rfl) rfl #[.agg #[.int .i64 a0_0, .bool a0_1, .slice A0_2 l0_2.length c0_2]] rfl (by (try simp only [List.map_toArray, List.map_cons, List.map_nil]); first | done | rfl | (simp only [List.length_drop, List.length_take]; rfl)) ?_; (with_reducible refine (spec_GatherOk.calls a0_0 a0_1 _ _ l0_2 true _ ?side1 ?side2 A9.out).mono ?_); (case side1 => repeat (first | exact (Kd.C_below HR0_2.out HB.out) | (with_reducible first | apply cA_ | apply cN_ | apply cD_))); (case side2 => exact HC0_2.out); rintro e w57 ⟨rfl, hb⟩; refine ⟨_, rfl, ?_⟩; replace HO158 := As_ (Kd.R_below (by (with_reducible repeat (first | apply rA_ | apply rN_ | apply rD_)); exact HO158.out) hb); replace BK153 := As_ (blk_below (g := gb153) (o := .cells #[.int .i64 a0_0, .bool a0_1, .slice A0_2 l0_2.length c0_2] 41 (0, 0)) (by (with_reducible repeat (first | apply kN_ | apply kD_ | apply kA_)); exact BK153.out) hb); replace BK154 := As_ (blk_below (g := gb154) (o := .cells #[.int .i64 a1_0, .int .i64 a1_1, .int .i64 a1_2, .slice A1_3 l1_3.length c1_3] 45 (0, 0)) (by (with_reducible repeat (first | apply kN_ | apply kD_ | apply kA_)); exact BK154.out) hb); replace BK155 := As_ (blk_below (g := gb155) (o := .cells #[.int .i64 0, .bool false, .slice none 0 0] 41 (0, 0)) (by (with_reducible repeat (first | apply kN_ | apply kD_ | apply kA_)); exact BK155.out) hb); replace HB := As_ (below_step (by repeat (first | (with_reducible first | exact HB.out | apply bA_ | apply bN_ | apply bD_ | refine bS_ ?_ GE153.out | refine bS_ ?_ GE154.out | refine bS_ ?_ GE155.out) | exact HB.out)) hb); (try clear hb); (try clear hb2); (try clear hk); (try clear hi); have hnb58 := NB154_155.out; have hnc58 := NB155_154.out; obtain ⟨hcz59_0, hcz59_1, hcz59_2, hcz59_3, hfz59_0, hfz59_1, hfz59_2, hfz59_3⟩ := blk_all4 BK154.out) | (go_at_call 55; (with_reducible refine (spec_FrameCode.calls k a1_0 a1_1 a1_2 _ _ l1_3 t160 _ ?side1 ?side2 A11.out).mono ?_); (case side1 => repeat (first | exact (Kd.C_below HR1_3.out HB.out) | (with_reducible first | apply cA_ | apply cN_ | apply cD_))); (case side2 => exact HC1_3.out); rintro e w60 ⟨rfl, hb⟩; replace HO158 := As_ (Kd.R_below (by (with_reducible repeat (first | apply rA_ | apply rN_ | apply rD_)); exact HO158.out) hb); replace BK153 := As_ (blk_below (g := gb153) (o := .cells #[.int .i64 a0_0, .bool a0_1, .slice A0_2 l0_2.length c0_2] 41 (0, 0)) (by (with_reducible repeat (first | apply kN_ | apply kD_ | apply kA_)); exact BK153.out) hb); replace BK154 := As_ (blk_below (g := gb154) (o := .cells #[.int .i64 a1_0, .int .i64 a1_1, .int .i64 a1_2, .slice A1_3 l1_3.length c1_3] 45 (0, 0)) (by (with_reducible repeat (first | apply kN_ | apply kD_ | apply kA_)); exact BK154.out) hb); replace BK155 := As_ (blk_below (g := gb155) (o := .cells #[.int .i64 0, .bool false, .slice none 0 0] 41 (0, 0)) (by (with_reducible repeat (first | apply kN_ | apply kD_ | apply kA_)); exact BK155.out) hb); replace HB := As_ (below_step (by repeat (first | (with_reducible first | exact HB.out | apply bA_ | apply bN_ | apply bD_ | refine bS_ ?_ GE153.out | refine bS_ ?_ GE154.out | refine bS_ ?_ GE155.out) | exact HB.out)) hb); (try clear hb); (try clear hb2); (try clear hk); (try clear hi); obtain ⟨hcz61_0, hcz61_1, hcz61_2, hfz61_0, hfz61_1, hfz61_2⟩ := blk_all3 BK153.out; obtain ⟨hcz62_0, hcz62_1, hcz62_2, hcz62_3, hfz62_0, hfz62_1, hfz62_2, hfz62_3⟩ := blk_all4 BK154.out))
            go_meet
            case rel => exact ⟨_, ((a1_0 == 9)), (by first | rfl | (simp; done) | (simp [*]; done)), H', ⟨by first | omega | exact Nat.le_refl _⟩, ⟨by (with_reducible repeat (first | apply rA_ | apply rN_ | apply rD_)); exact HO158.out⟩, ⟨by (with_reducible repeat (first | apply kN_ | apply kD_ | apply kA_)); exact BK153.out⟩, ⟨by (with_reducible repeat (first | apply kN_ | apply kD_ | apply kA_)); exact BK154.out⟩, ⟨by (with_reducible repeat (first | apply kN_ | apply kD_ | apply kA_)); exact BK155.out⟩, ⟨by repeat (first | (with_reducible first | exact HB.out | apply bA_ | apply bN_ | apply bD_ | refine bS_ ?_ GE153.out | refine bS_ ?_ GE154.out | refine bS_ ?_ GE155.out) | exact HB.out)⟩⟩
          · rw [if_neg c53] at H
            have c53b0 : (a0_0 == 0) = false := beq_eq_false_iff_ne.mpr c53
            have c53b1 : (a0_0 != 0) = true := bne_iff_ne.mpr c53
            have H' := Aside0.mk H
            clear H
            have hnb63 := NB153_154.out
            have hnc63 := NB154_153.out
            have hnb64 := NB153_155.out
            have hnc64 := NB155_153.out
            obtain ⟨hcz65_0, hcz65_1, hcz65_2, hfz65_0, hfz65_1, hfz65_2⟩ := blk_all3 BK153.out
            go_wp2_with (first | ((with_reducible refine gate_callee (f := 54) rfl ?_); refine goesL_ (some 13) rfl rfl Try.func54 (by kernel_rfl) rfl #[.agg #[.int .i64 a0_0, .bool a0_1, .slice A0_2 l0_2.length c0_2]] rfl (by (try simp only [List.map_toArray, List.map_cons, List.map_nil]); first | done | rfl | (simp only [List.length_drop, List.length_take]; rfl)) ?_; (with_reducible refine (spec_GatherOk.calls a0_0 a0_1 _ _ l0_2 true _ ?side1 ?side2 A9.out).mono ?_); (case side1 => repeat (first | exact (Kd.C_below HR0_2.out HB.out) | (with_reducible first | apply cA_ | apply cN_ | apply cD_))); (case side2 => exact HC0_2.out); rintro e w66 ⟨rfl, hb⟩; refine ⟨_, rfl, ?_⟩; replace HO158 := As_ (Kd.R_below (by (with_reducible repeat (first | apply rA_ | apply rN_ | apply rD_)); exact HO158.out) hb); replace BK153 := As_ (blk_below (g := gb153) (o := .cells #[.int .i64 a0_0, .bool a0_1, .slice A0_2 l0_2.length c0_2] 41 (0, 0)) (by (with_reducible repeat (first | apply kN_ | apply kD_ | apply kA_)); exact BK153.out) hb); replace BK154 := As_ (blk_below (g := gb154) (o := .cells #[.int .i64 a1_0, .int .i64 a1_1, .int .i64 a1_2, .slice A1_3 l1_3.length c1_3] 45 (0, 0)) (by (with_reducible repeat (first | apply kN_ | apply kD_ | apply kA_)); exact BK154.out) hb); replace BK155 := As_ (blk_below (g := gb155) (o := .cells #[.int .i64 0, .bool false, .slice none 0 0] 41 (0, 0)) (by (with_reducible repeat (first | apply kN_ | apply kD_ | apply kA_)); exact BK155.out) hb); replace HB := As_ (below_step (by repeat (first | (with_reducible first | exact HB.out | apply bA_ | apply bN_ | apply bD_ | refine bS_ ?_ GE153.out | refine bS_ ?_ GE154.out | refine bS_ ?_ GE155.out) | exact HB.out)) hb); (try clear hb); (try clear hb2); (try clear hk); (try clear hi); have hnb67 := NB154_155.out; have hnc67 := NB155_154.out; obtain ⟨hcz68_0, hcz68_1, hcz68_2, hcz68_3, hfz68_0, hfz68_1, hfz68_2, hfz68_3⟩ := blk_all4 BK154.out) | (go_at_call 55; (with_reducible refine (spec_FrameCode.calls k a1_0 a1_1 a1_2 _ _ l1_3 t160 _ ?side1 ?side2 A11.out).mono ?_); (case side1 => repeat (first | exact (Kd.C_below HR1_3.out HB.out) | (with_reducible first | apply cA_ | apply cN_ | apply cD_))); (case side2 => exact HC1_3.out); rintro e w69 ⟨rfl, hb⟩; replace HO158 := As_ (Kd.R_below (by (with_reducible repeat (first | apply rA_ | apply rN_ | apply rD_)); exact HO158.out) hb); replace BK153 := As_ (blk_below (g := gb153) (o := .cells #[.int .i64 a0_0, .bool a0_1, .slice A0_2 l0_2.length c0_2] 41 (0, 0)) (by (with_reducible repeat (first | apply kN_ | apply kD_ | apply kA_)); exact BK153.out) hb); replace BK154 := As_ (blk_below (g := gb154) (o := .cells #[.int .i64 a1_0, .int .i64 a1_1, .int .i64 a1_2, .slice A1_3 l1_3.length c1_3] 45 (0, 0)) (by (with_reducible repeat (first | apply kN_ | apply kD_ | apply kA_)); exact BK154.out) hb); replace BK155 := As_ (blk_below (g := gb155) (o := .cells #[.int .i64 0, .bool false, .slice none 0 0] 41 (0, 0)) (by (with_reducible repeat (first | apply kN_ | apply kD_ | apply kA_)); exact BK155.out) hb); replace HB := As_ (below_step (by repeat (first | (with_reducible first | exact HB.out | apply bA_ | apply bN_ | apply bD_ | refine bS_ ?_ GE153.out | refine bS_ ?_ GE154.out | refine bS_ ?_ GE155.out) | exact HB.out)) hb); (try clear hb); (try clear hb2); (try clear hk); (try clear hi); obtain ⟨hcz70_0, hcz70_1, hcz70_2, hfz70_0, hfz70_1, hfz70_2⟩ := blk_all3 BK153.out))
            go_meet
            case rel => exact ⟨_, (false), (by first | rfl | (simp; done) | (simp [*]; done)), H', ⟨by first | omega | exact Nat.le_refl _⟩, ⟨by (with_reducible repeat (first | apply rA_ | apply rN_ | apply rD_)); exact HO158.out⟩, ⟨by (with_reducible repeat (first | apply kN_ | apply kD_ | apply kA_)); exact BK153.out⟩, ⟨by (with_reducible repeat (first | apply kN_ | apply kD_ | apply kA_)); exact BK154.out⟩, ⟨by (with_reducible repeat (first | apply kN_ | apply kD_ | apply kA_)); exact BK155.out⟩, ⟨by repeat (first | (with_reducible first | exact HB.out | apply bA_ | apply bN_ | apply bD_ | refine bS_ ?_ GE153.out | refine bS_ ?_ GE154.out | refine bS_ ?_ GE155.out) | exact HB.out)⟩⟩
      · rw [if_neg c12] at H
        have c12b0 : (t160 == 0) = false := beq_eq_false_iff_ne.mpr c12
        have c12b1 : (t160 != 0) = true := bne_iff_ne.mpr c12
        (first | rw [c12b0] | (simp only [i64_w, i32_w]; rw [c12b0]) | skip)
        have H' := Aside0.mk H
        clear H
        have hnb71 := NB153_154.out
        have hnc71 := NB154_153.out
        have hnb72 := NB153_155.out
        have hnc72 := NB155_153.out
        obtain ⟨hcz73_0, hcz73_1, hcz73_2, hfz73_0, hfz73_1, hfz73_2⟩ := blk_all3 BK153.out
        go_wp2_with (first | ((with_reducible refine gate_callee (f := 54) rfl ?_); refine goesL_ (some 13) rfl rfl Try.func54 (by kernel_rfl) rfl #[.agg #[.int .i64 a0_0, .bool a0_1, .slice A0_2 l0_2.length c0_2]] rfl (by (try simp only [List.map_toArray, List.map_cons, List.map_nil]); first | done | rfl | (simp only [List.length_drop, List.length_take]; rfl)) ?_; (with_reducible refine (spec_GatherOk.calls a0_0 a0_1 _ _ l0_2 true _ ?side1 ?side2 A9.out).mono ?_); (case side1 => repeat (first | exact (Kd.C_below HR0_2.out HB.out) | (with_reducible first | apply cA_ | apply cN_ | apply cD_))); (case side2 => exact HC0_2.out); rintro e w74 ⟨rfl, hb⟩; refine ⟨_, rfl, ?_⟩; replace HO158 := As_ (Kd.R_below (by (with_reducible repeat (first | apply rA_ | apply rN_ | apply rD_)); exact HO158.out) hb); replace BK153 := As_ (blk_below (g := gb153) (o := .cells #[.int .i64 a0_0, .bool a0_1, .slice A0_2 l0_2.length c0_2] 41 (0, 0)) (by (with_reducible repeat (first | apply kN_ | apply kD_ | apply kA_)); exact BK153.out) hb); replace BK154 := As_ (blk_below (g := gb154) (o := .cells #[.int .i64 a1_0, .int .i64 a1_1, .int .i64 a1_2, .slice A1_3 l1_3.length c1_3] 45 (0, 0)) (by (with_reducible repeat (first | apply kN_ | apply kD_ | apply kA_)); exact BK154.out) hb); replace BK155 := As_ (blk_below (g := gb155) (o := .cells #[.int .i64 0, .bool false, .slice none 0 0] 41 (0, 0)) (by (with_reducible repeat (first | apply kN_ | apply kD_ | apply kA_)); exact BK155.out) hb); replace HB := As_ (below_step (by repeat (first | (with_reducible first | exact HB.out | apply bA_ | apply bN_ | apply bD_ | refine bS_ ?_ GE153.out | refine bS_ ?_ GE154.out | refine bS_ ?_ GE155.out) | exact HB.out)) hb); (try clear hb); (try clear hb2); (try clear hk); (try clear hi); have hnb75 := NB154_155.out; have hnc75 := NB155_154.out; obtain ⟨hcz76_0, hcz76_1, hcz76_2, hcz76_3, hfz76_0, hfz76_1, hfz76_2, hfz76_3⟩ := blk_all4 BK154.out) | (go_at_call 55; (with_reducible refine (spec_FrameCode.calls k a1_0 a1_1 a1_2 _ _ l1_3 t160 _ ?side1 ?side2 A11.out).mono ?_); (case side1 => repeat (first | exact (Kd.C_below HR1_3.out HB.out) | (with_reducible first | apply cA_ | apply cN_ | apply cD_))); (case side2 => exact HC1_3.out); rintro e w77 ⟨rfl, hb⟩; replace HO158 := As_ (Kd.R_below (by (with_reducible repeat (first | apply rA_ | apply rN_ | apply rD_)); exact HO158.out) hb); replace BK153 := As_ (blk_below (g := gb153) (o := .cells #[.int .i64 a0_0, .bool a0_1, .slice A0_2 l0_2.length c0_2] 41 (0, 0)) (by (with_reducible repeat (first | apply kN_ | apply kD_ | apply kA_)); exact BK153.out) hb); replace BK154 := As_ (blk_below (g := gb154) (o := .cells #[.int .i64 a1_0, .int .i64 a1_1, .int .i64 a1_2, .slice A1_3 l1_3.length c1_3] 45 (0, 0)) (by (with_reducible repeat (first | apply kN_ | apply kD_ | apply kA_)); exact BK154.out) hb); replace BK155 := As_ (blk_below (g := gb155) (o := .cells #[.int .i64 0, .bool false, .slice none 0 0] 41 (0, 0)) (by (with_reducible repeat (first | apply kN_ | apply kD_ | apply kA_)); exact BK155.out) hb); replace HB := As_ (below_step (by repeat (first | (with_reducible first | exact HB.out | apply bA_ | apply bN_ | apply bD_ | refine bS_ ?_ GE153.out | refine bS_ ?_ GE154.out | refine bS_ ?_ GE155.out) | exact HB.out)) hb); (try clear hb); (try clear hb2); (try clear hk); (try clear hi)))
        go_meet
        case rel => exact ⟨_, (true), (by first | rfl | (simp; done) | (simp [*]; done)), H', ⟨by first | omega | exact Nat.le_refl _⟩, ⟨by (with_reducible repeat (first | apply rA_ | apply rN_ | apply rD_)); exact HO158.out⟩, ⟨by (with_reducible repeat (first | apply kN_ | apply kD_ | apply kA_)); exact BK153.out⟩, ⟨by (with_reducible repeat (first | apply kN_ | apply kD_ | apply kA_)); exact BK154.out⟩, ⟨by (with_reducible repeat (first | apply kN_ | apply kD_ | apply kA_)); exact BK155.out⟩, ⟨by repeat (first | (with_reducible first | exact HB.out | apply bA_ | apply bN_ | apply bD_ | refine bS_ ?_ GE153.out | refine bS_ ?_ GE154.out | refine bS_ ?_ GE155.out) | exact HB.out)⟩⟩
    · replace c10 := Bool.eq_false_iff.mpr c10
      subst c10
      have H1 : (spec_Feed.j0 k y156 true a0_0 a0_1 l0_2 a1_0 a1_1 a1_2 l1_3) = some (r1, r2, r3, r4, r5) := by rw [if_neg (show ¬ (false = true) by decide)] at H; exact H
      clear H
      have H := H1
      clear H1
      have H' := Aside0.mk H
      clear H
      have hnb78 := NB153_154.out
      have hnc78 := NB154_153.out
      have hnb79 := NB153_155.out
      have hnc79 := NB155_153.out
      obtain ⟨hcz80_0, hcz80_1, hcz80_2, hfz80_0, hfz80_1, hfz80_2⟩ := blk_all3 BK153.out
      go_wp2_with (first | ((with_reducible refine gate_callee (f := 54) rfl ?_); refine goesL_ (some 13) rfl rfl Try.func54 (by kernel_rfl) rfl #[.agg #[.int .i64 a0_0, .bool a0_1, .slice A0_2 l0_2.length c0_2]] rfl (by (try simp only [List.map_toArray, List.map_cons, List.map_nil]); first | done | rfl | (simp only [List.length_drop, List.length_take]; rfl)) ?_; (with_reducible refine (spec_GatherOk.calls a0_0 a0_1 _ _ l0_2 false _ ?side1 ?side2 A9.out).mono ?_); (case side1 => repeat (first | exact (Kd.C_below HR0_2.out HB.out) | (with_reducible first | apply cA_ | apply cN_ | apply cD_))); (case side2 => exact HC0_2.out); rintro e w81 ⟨rfl, hb⟩; refine ⟨_, rfl, ?_⟩; replace HO158 := As_ (Kd.R_below (by (with_reducible repeat (first | apply rA_ | apply rN_ | apply rD_)); exact HO158.out) hb); replace BK153 := As_ (blk_below (g := gb153) (o := .cells #[.int .i64 a0_0, .bool a0_1, .slice A0_2 l0_2.length c0_2] 41 (0, 0)) (by (with_reducible repeat (first | apply kN_ | apply kD_ | apply kA_)); exact BK153.out) hb); replace BK154 := As_ (blk_below (g := gb154) (o := .cells #[.int .i64 a1_0, .int .i64 a1_1, .int .i64 a1_2, .slice A1_3 l1_3.length c1_3] 45 (0, 0)) (by (with_reducible repeat (first | apply kN_ | apply kD_ | apply kA_)); exact BK154.out) hb); replace BK155 := As_ (blk_below (g := gb155) (o := .cells #[.int .i64 0, .bool false, .slice none 0 0] 41 (0, 0)) (by (with_reducible repeat (first | apply kN_ | apply kD_ | apply kA_)); exact BK155.out) hb); replace HB := As_ (below_step (by repeat (first | (with_reducible first | exact HB.out | apply bA_ | apply bN_ | apply bD_ | refine bS_ ?_ GE153.out | refine bS_ ?_ GE154.out | refine bS_ ?_ GE155.out) | exact HB.out)) hb); (try clear hb); (try clear hb2); (try clear hk); (try clear hi)))
      go_meet
      case rel => exact ⟨_, (true), (by first | rfl | (simp; done) | (simp [*]; done)), H', ⟨by first | omega | exact Nat.le_refl _⟩, ⟨by (with_reducible repeat (first | apply rA_ | apply rN_ | apply rD_)); exact HO158.out⟩, ⟨by (with_reducible repeat (first | apply kN_ | apply kD_ | apply kA_)); exact BK153.out⟩, ⟨by (with_reducible repeat (first | apply kN_ | apply kD_ | apply kA_)); exact BK154.out⟩, ⟨by (with_reducible repeat (first | apply kN_ | apply kD_ | apply kA_)); exact BK155.out⟩, ⟨by repeat (first | (with_reducible first | exact HB.out | apply bA_ | apply bN_ | apply bD_ | refine bS_ ?_ GE153.out | refine bS_ ?_ GE154.out | refine bS_ ?_ GE155.out) | exact HB.out)⟩⟩
  case rest =>
    clear HC3
    try clear c1
    try clear c2
    try clear p2
    try clear c3
    try clear c4
    try clear c5
    try clear c6
    try clear c7
    try clear c10
    try clear c12
    try clear c12b0
    try clear c12b1
    try clear c13
    try clear c13b0
    try clear c14
    try clear c14b0
    try clear c14b1
    try clear c15
    try clear c15b0
    try clear c15b1
    try clear c16
    try clear c16b0
    try clear c16b1
    try clear c17
    try clear c18
    try clear c21
    try clear c25
    try clear c26
    try clear c27
    try clear c30
    try clear c35
    try clear c36
    try clear c39
    try clear c44
    try clear c45
    try clear c48
    try clear c53
    try clear c53b0
    try clear c53b1
    try clear c54
    try clear c55
    try clear c58
    try clear c63
    try clear c64
    try clear c67
    try clear c71
    try clear c72
    try clear c75
    try clear c78
    try clear c79
    try clear hcz19_0
    try clear hcz19_1
    try clear hcz19_2
    try clear hcz22_0
    try clear hcz22_1
    try clear hcz22_2
    try clear hcz22_3
    try clear hcz24_0
    try clear hcz24_1
    try clear hcz24_2
    try clear hcz25_0
    try clear hcz25_1
    try clear hcz25_2
    try clear hcz25_3
    try clear hcz28_0
    try clear hcz28_1
    try clear hcz28_2
    try clear hcz31_0
    try clear hcz31_1
    try clear hcz31_2
    try clear hcz31_3
    try clear hcz33_0
    try clear hcz33_1
    try clear hcz33_2
    try clear hcz34_0
    try clear hcz34_1
    try clear hcz34_2
    try clear hcz34_3
    try clear hcz37_0
    try clear hcz37_1
    try clear hcz37_2
    try clear hcz40_0
    try clear hcz40_1
    try clear hcz40_2
    try clear hcz40_3
    try clear hcz42_0
    try clear hcz42_1
    try clear hcz42_2
    try clear hcz43_0
    try clear hcz43_1
    try clear hcz43_2
    try clear hcz43_3
    try clear hcz46_0
    try clear hcz46_1
    try clear hcz46_2
    try clear hcz49_0
    try clear hcz49_1
    try clear hcz49_2
    try clear hcz49_3
    try clear hcz51_0
    try clear hcz51_1
    try clear hcz51_2
    try clear hcz52_0
    try clear hcz52_1
    try clear hcz52_2
    try clear hcz52_3
    try clear hcz56_0
    try clear hcz56_1
    try clear hcz56_2
    try clear hcz59_0
    try clear hcz59_1
    try clear hcz59_2
    try clear hcz59_3
    try clear hcz61_0
    try clear hcz61_1
    try clear hcz61_2
    try clear hcz62_0
    try clear hcz62_1
    try clear hcz62_2
    try clear hcz62_3
    try clear hcz65_0
    try clear hcz65_1
    try clear hcz65_2
    try clear hcz68_0
    try clear hcz68_1
    try clear hcz68_2
    try clear hcz68_3
    try clear hcz70_0
    try clear hcz70_1
    try clear hcz70_2
    try clear hcz73_0
    try clear hcz73_1
    try clear hcz73_2
    try clear hcz76_0
    try clear hcz76_1
    try clear hcz76_2
    try clear hcz76_3
    try clear hcz80_0
    try clear hcz80_1
    try clear hcz80_2
    try clear hfz19_0
    try clear hfz19_1
    try clear hfz19_2
    try clear hfz22_0
    try clear hfz22_1
    try clear hfz22_2
    try clear hfz22_3
    try clear hfz24_0
    try clear hfz24_1
    try clear hfz24_2
    try clear hfz25_0
    try clear hfz25_1
    try clear hfz25_2
    try clear hfz25_3
    try clear hfz28_0
    try clear hfz28_1
    try clear hfz28_2
    try clear hfz31_0
    try clear hfz31_1
    try clear hfz31_2
    try clear hfz31_3
    try clear hfz33_0
    try clear hfz33_1
    try clear hfz33_2
    try clear hfz34_0
    try clear hfz34_1
    try clear hfz34_2
    try clear hfz34_3
    try clear hfz37_0
    try clear hfz37_1
    try clear hfz37_2
    try clear hfz40_0
    try clear hfz40_1
    try clear hfz40_2
    try clear hfz40_3
    try clear hfz42_0
    try clear hfz42_1
    try clear hfz42_2
    try clear hfz43_0
    try clear hfz43_1
    try clear hfz43_2
    try clear hfz43_3
    try clear hfz46_0
    try clear hfz46_1
    try clear hfz46_2
    try clear hfz49_0
    try clear hfz49_1
    try clear hfz49_2
    try clear hfz49_3
    try clear hfz51_0
    try clear hfz51_1
    try clear hfz51_2
    try clear hfz52_0
    try clear hfz52_1
    try clear hfz52_2
    try clear hfz52_3
    try clear hfz56_0
    try clear hfz56_1
    try clear hfz56_2
    try clear hfz59_0
    try clear hfz59_1
    try clear hfz59_2
    try clear hfz59_3
    try clear hfz61_0
    try clear hfz61_1
    try clear hfz61_2
    try clear hfz62_0
    try clear hfz62_1
    try clear hfz62_2
    try clear hfz62_3
    try clear hfz65_0
    try clear hfz65_1
    try clear hfz65_2
    try clear hfz68_0
    try clear hfz68_1
    try clear hfz68_2
    try clear hfz68_3
    try clear hfz70_0
    try clear hfz70_1
    try clear hfz70_2
    try clear hfz73_0
    try clear hfz73_1
    try clear hfz73_2
    try clear hfz76_0
    try clear hfz76_1
    try clear hfz76_2
    try clear hfz76_3
    try clear hfz80_0
    try clear hfz80_1
    try clear hfz80_2
    obtain ⟨kq, x46_2, rfl, HA, HJ2, HO_7, BK153, BK154, BK155, HB⟩ := hcut
    cases kq with
    | zero => exact absurd HA.out (by simp [spec_Feed.j0])
    | succ kj2 =>
      have H := HA.out
      clear HA
      simp only [spec_Feed.j0] at H
      by_cases c82 : x46_2 = true
      · subst c82
        have H1 : ((spec_l8Copy.f a0_0 a0_1 l0_2).bind fun bt161 => (some (bt161.1, bt161.2.1, bt161.2.2, y156, 2))) = some (r1, r2, r3, r4, r5) := by rw [if_pos rfl] at H; exact H
        clear H
        have H := H1
        clear H1
        replace H := Option.bind_eq_some_iff.mp H
        obtain ⟨⟨t161, t162, t163⟩, A830, H⟩ := H
        replace H : (some (t161, t162, t163, y156, 2)) = some (r1, r2, r3, r4, r5) := H
        have A83 := Aside0.mk A830
        clear A830
        simp only [Option.some.injEq, Prod.mk.injEq] at H
        obtain ⟨rfl, rfl, rfl, rfl, rfl⟩ := H
        have hnb84 := NB153_154.out
        have hnc84 := NB154_153.out
        have hnb85 := NB153_155.out
        have hnc85 := NB155_153.out
        obtain ⟨hcz86_0, hcz86_1, hcz86_2, hfz86_0, hfz86_1, hfz86_2⟩ := blk_all3 BK153.out
        go_wp2_with (first | ((with_reducible refine gate_callee (f := 56) rfl ?_); refine goesL_ (some 48) rfl rfl Try.func56 (by kernel_rfl) rfl #[.agg #[.int .i64 a0_0, .bool a0_1, .slice A0_2 l0_2.length c0_2]] rfl (by (try simp only [List.map_toArray, List.map_cons, List.map_nil]); first | done | rfl | (simp only [List.length_drop, List.length_take]; rfl)) ?_; (with_reducible refine (spec_l8Copy.calls a0_0 a0_1 _ _ l0_2 t161 t162 t163 _ ?side1 ?side2 A83.out).mono ?_); (case side1 => repeat (first | exact (Kd.C_below HR0_2.out HB.out) | (with_reducible first | apply cA_ | apply cN_ | apply cD_))); (case side2 => exact HC0_2.out); rintro e w87 ⟨v164, rfl, ho0, hb⟩; refine ⟨_, rfl, ?_⟩; have n0_ := As_ (Kd.R_elder' (by (with_reducible repeat (first | apply rA_ | apply rN_ | apply rD_)); exact HO_7.out) (Kd.R_base ho0) hb); have HO165 := As_ (Kd.R_lower (Kd.R_new' ho0 (Kd.R_lt (by (with_reducible repeat (first | apply rA_ | apply rN_ | apply rD_)); exact HO_7.out))) (below_size (by repeat (first | (with_reducible first | exact HB.out | apply bA_ | apply bN_ | apply bD_ | refine bS_ ?_ GE153.out | refine bS_ ?_ GE154.out | refine bS_ ?_ GE155.out) | exact HB.out)))); replace BK153 := As_ (blk_below (g := gb153) (o := .cells #[.int .i64 a0_0, .bool a0_1, .slice A0_2 l0_2.length c0_2] 41 (0, 0)) (by (with_reducible repeat (first | apply kN_ | apply kD_ | apply kA_)); exact BK153.out) hb); replace BK154 := As_ (blk_below (g := gb154) (o := .cells #[.int .i64 a1_0, .int .i64 a1_1, .int .i64 a1_2, .slice A1_3 l1_3.length c1_3] 45 (0, 0)) (by (with_reducible repeat (first | apply kN_ | apply kD_ | apply kA_)); exact BK154.out) hb); replace BK155 := As_ (blk_below (g := gb155) (o := .cells #[.int .i64 0, .bool false, .slice none 0 0] 41 (0, 0)) (by (with_reducible repeat (first | apply kN_ | apply kD_ | apply kA_)); exact BK155.out) hb); replace HB := As_ (below_step (by repeat (first | (with_reducible first | exact HB.out | apply bA_ | apply bN_ | apply bD_ | refine bS_ ?_ GE153.out | refine bS_ ?_ GE154.out | refine bS_ ?_ GE155.out) | exact HB.out)) hb); clear HO_7; have HO_7 := n0_; clear n0_; (try clear hb); (try clear hb2); (try clear hk); (try clear hi); (try clear ho0); have hnb88 := NB155_154.out; have hnc88 := NB154_155.out; obtain ⟨hcz89_0, hcz89_1, hcz89_2, hfz89_0, hfz89_1, hfz89_2⟩ := blk_all3 BK155.out; obtain ⟨Ao90, co90, eo90⟩ := Kd.R_slice HO165.out; subst eo90))
        refine bodyPost_ret (results_ctt rfl _ _ gb155 41 #[.int .i64 t161, .bool t162, .slice Ao90 t163.length co90] (0, 0) _ rfl (by (with_reducible repeat (first | apply kN_ | apply kD_ | apply kA_)); refine blk_put (cs := #[.int .i64 t161, .bool t162, .slice none 0 0]) ?_ 2 _ rfl; (with_reducible repeat (first | apply kN_ | apply kD_ | apply kA_)); refine blk_put (cs := #[.int .i64 t161, .bool false, .slice none 0 0]) ?_ 1 _ rfl; (with_reducible repeat (first | apply kN_ | apply kD_ | apply kA_)); refine blk_put (cs := #[.int .i64 0, .bool false, .slice none 0 0]) ?_ 0 _ rfl; (with_reducible repeat (first | apply kN_ | apply kD_ | apply kA_)); exact BK155.out) Try.underlying41 rfl (by kernel_rfl)) rfl ?_
        exact ⟨_, _, by first | rfl | (simp [errW_none, errW_some] <;> rfl) | (simp [*, errW_none, errW_some] <;> rfl), by (with_reducible repeat (first | apply rA_ | apply rN_ | apply rD_)); exact Kd.R_mono (Kd.R_far (p := ⟨gb155, 2, none⟩) (Kd.R_far (p := ⟨gb155, 1, none⟩) (Kd.R_far (p := ⟨gb155, 0, none⟩) (Kd.R_types HO165.out BK155.out (by decide)) (fun _ hk => hk.2) (.int .i64 t161)) (fun _ hk => hk.2) (.bool t162)) (fun _ hk => hk.2) (.slice Ao90 t163.length co90)) (fun _ hk => hk.1.2), by (with_reducible repeat (first | apply rA_ | apply rN_ | apply rD_)); exact Kd.R_mono (Kd.R_far (p := ⟨gb155, 2, none⟩) (Kd.R_far (p := ⟨gb155, 1, none⟩) (Kd.R_far (p := ⟨gb155, 0, none⟩) (Kd.R_types HO_7.out BK155.out (by decide)) (fun _ hk => hk.2) (.int .i64 t161)) (fun _ hk => hk.2) (.bool t162)) (fun _ hk => hk.2) (.slice Ao90 t163.length co90)) (fun _ hk => hk.1.2), by repeat (first | (with_reducible first | exact HB.out | apply bA_ | apply bN_ | apply bD_ | refine bS_ ?_ GE153.out | refine bS_ ?_ GE154.out | refine bS_ ?_ GE155.out) | exact HB.out)⟩
      · replace c82 := Bool.eq_false_iff.mpr c82
        subst c82
        have H1 : ((spec_l8Copy.f a0_0 a0_1 l0_2).bind fun bt166 => (if a1_0 = 1 then ((spec_Unpad.f kj2 a1_0 a1_1 a1_2 l1_3).bind fun bt172 => (if bt172.2 = true then (spec_Feed.j1 kj2 y156 a0_0 a0_1 l0_2 a1_0 a1_1 a1_2 l1_3 a1_2 ((Go.bits .and .i64 a1_1 1) != 0) bt172.1) else ((spec_l8Copy.f a0_0 a0_1 l0_2).bind fun bt176 => (some (bt176.1, bt176.2.1, bt176.2.2, y156, 3))))) else (if a1_0 = 9 then (if bt166.2.2.length + l1_3.length < 140737488355328 then (spec_Feed.j1 kj2 y156 a0_0 a0_1 l0_2 a1_0 a1_1 a1_2 l1_3 bt166.1 bt166.2.1 (bt166.2.2 ++ l1_3)) else (none)) else (some (bt166.1, bt166.2.1, bt166.2.2, y156, 0))))) = some (r1, r2, r3, r4, r5) := by rw [if_neg (show ¬ (false = true) by decide)] at H; exact H
        clear H
        have H := H1
        clear H1
        replace H := Option.bind_eq_some_iff.mp H
        obtain ⟨⟨t166, t167, t168⟩, A910, H⟩ := H
        replace H : (if a1_0 = 1 then ((spec_Unpad.f kj2 a1_0 a1_1 a1_2 l1_3).bind fun bt172 => (if bt172.2 = true then (spec_Feed.j1 kj2 y156 a0_0 a0_1 l0_2 a1_0 a1_1 a1_2 l1_3 a1_2 ((Go.bits .and .i64 a1_1 1) != 0) bt172.1) else ((spec_l8Copy.f a0_0 a0_1 l0_2).bind fun bt176 => (some (bt176.1, bt176.2.1, bt176.2.2, y156, 3))))) else (if a1_0 = 9 then (if t168.length + l1_3.length < 140737488355328 then (spec_Feed.j1 kj2 y156 a0_0 a0_1 l0_2 a1_0 a1_1 a1_2 l1_3 t166 t167 (t168 ++ l1_3)) else (none)) else (some (t166, t167, t168, y156, 0)))) = some (r1, r2, r3, r4, r5) := H
        have A91 := Aside0.mk A910
        clear A910
        have HC92 := Aside0.mk H
        clear H
        have hnb93 := NB153_154.out
        have hnc93 := NB154_153.out
        have hnb94 := NB153_155.out
        have hnc94 := NB155_153.out
        obtain ⟨hcz95_0, hcz95_1, hcz95_2, hfz95_0, hfz95_1, hfz95_2⟩ := blk_all3 BK153.out
        go_upto_block 0 with (first | ((with_reducible refine gate_callee (f := 56) rfl ?_); refine goesL_ (some 51) rfl rfl Try.func56 (by kernel_rfl) rfl #[.agg #[.int .i64 a0_0, .bool a0_1, .slice A0_2 l0_2.length c0_2]] rfl (by (try simp only [List.map_toArray, List.map_cons, List.map_nil]); first | done | rfl | (simp only [List.length_drop, List.length_take]; rfl)) ?_; (with_reducible refine (spec_l8Copy.calls a0_0 a0_1 _ _ l0_2 t166 t167 t168 _ ?side1 ?side2 A91.out).mono ?_); (case side1 => repeat (first | exact (Kd.C_below HR0_2.out HB.out) | (with_reducible first | apply cA_ | apply cN_ | apply cD_))); (case side2 => exact HC0_2.out); rintro e w96 ⟨v169, rfl, ho0, hb⟩; refine ⟨_, rfl, ?_⟩; have n0_ := As_ (Kd.R_elder' (by (with_reducible repeat (first | apply rA_ | apply rN_ | apply rD_)); exact HO_7.out) (Kd.R_base ho0) hb); have HO170 := As_ (Kd.R_lower (Kd.R_new' ho0 (Kd.R_lt (by (with_reducible repeat (first | apply rA_ | apply rN_ | apply rD_)); exact HO_7.out))) (below_size (by repeat (first | (with_reducible first | exact HB.out | apply bA_ | apply bN_ | apply bD_ | refine bS_ ?_ GE153.out | refine bS_ ?_ GE154.out | refine bS_ ?_ GE155.out) | exact HB.out)))); replace BK153 := As_ (blk_below (g := gb153) (o := .cells #[.int .i64 a0_0, .bool a0_1, .slice A0_2 l0_2.length c0_2] 41 (0, 0)) (by (with_reducible repeat (first | apply kN_ | apply kD_ | apply kA_)); exact BK153.out) hb); replace BK154 := As_ (blk_below (g := gb154) (o := .cells #[.int .i64 a1_0, .int .i64 a1_1, .int .i64 a1_2, .slice A1_3 l1_3.length c1_3] 45 (0, 0)) (by (with_reducible repeat (first | apply kN_ | apply kD_ | apply kA_)); exact BK154.out) hb); replace BK155 := As_ (blk_below (g := gb155) (o := .cells #[.int .i64 0, .bool false, .slice none 0 0] 41 (0, 0)) (by (with_reducible repeat (first | apply kN_ | apply kD_ | apply kA_)); exact BK155.out) hb); replace HB := As_ (below_step (by repeat (first | (with_reducible first | exact HB.out | apply bA_ | apply bN_ | apply bD_ | refine bS_ ?_ GE153.out | refine bS_ ?_ GE154.out | refine bS_ ?_ GE155.out) | exact HB.out)) hb); clear HO_7; have HO_7 := n0_; clear n0_; (try clear hb); (try clear hb2); (try clear hk); (try clear hi); (try clear ho0)) | ((with_reducible refine gate_dst (N := 8) rfl ?_); refine box_event ?hg (N := 8) ?hd (cs := #[.int .i64 0, .bool false, .slice none 0 0]) (t := 41) ?hr ?_; (case hd => rfl); (case hg => rfl); (case hr => first | (go_simp; done) | (go_simp; rfl)); intro gb171 hg w97 hbox hb; have n0_ := As_ (Kd.R_below (by (with_reducible repeat (first | apply rA_ | apply rN_ | apply rD_)); exact HO_7.out) hb); have n1_ := As_ (Kd.R_below (by (with_reducible repeat (first | apply rA_ | apply rN_ | apply rD_)); exact HO170.out) hb); have n2_ := As_ (blk_below (g := gb153) (o := .cells #[.int .i64 a0_0, .bool a0_1, .slice A0_2 l0_2.length c0_2] 41 (0, 0)) (by (with_reducible repeat (first | apply kN_ | apply kD_ | apply kA_)); exact BK153.out) hb); have n3_ := As_ (blk_below (g := gb154) (o := .cells #[.int .i64 a1_0, .int .i64 a1_1, .int .i64 a1_2, .slice A1_3 l1_3.length c1_3] 45 (0, 0)) (by (with_reducible repeat (first | apply kN_ | apply kD_ | apply kA_)); exact BK154.out) hb); have n4_ := As_ (blk_below (g := gb155) (o := .cells #[.int .i64 0, .bool false, .slice none 0 0] 41 (0, 0)) (by (with_reducible repeat (first | apply kN_ | apply kD_ | apply kA_)); exact BK155.out) hb); have n5_ := As_ (below_step (by repeat (first | (with_reducible first | exact HB.out | apply bA_ | apply bN_ | apply bD_ | refine bS_ ?_ GE153.out | refine bS_ ?_ GE154.out | refine bS_ ?_ GE155.out) | exact HB.out)) hb); have n6_ := As_ (hbox); have n7_ := As_ ((by rw [hg]; exact (below_size (by repeat (first | (with_reducible first | exact HB.out | apply bA_ | apply bN_ | apply bD_ | refine bS_ ?_ GE153.out | refine bS_ ?_ GE154.out | refine bS_ ?_ GE155.out) | exact HB.out))) : w.heap.size ≤ gb171)); have n8_ := As_ ((by rw [hg]; exact (below_size (by repeat (first | (with_reducible first | exact HB.out | apply bA_ | apply bN_ | apply bD_ | refine bS_ ?_ GE153.out | refine bS_ ?_ GE154.out | refine bS_ ?_ GE155.out) | exact HB.out))) : w.heap.size ≤ gb171)); have n9_ := As_ ((by rw [hg]; exact Nat.ne_of_lt (blk_lt (g := gb153) (o := .cells #[.int .i64 a0_0, .bool a0_1, .slice A0_2 l0_2.length c0_2] 41 (0, 0)) (by (with_reducible repeat (first | apply kN_ | apply kD_ | apply kA_)); exact BK153.out)) : gb153 ≠ gb171)); have n10_ := As_ ((by rw [hg]; exact Nat.ne_of_gt (blk_lt (g := gb153) (o := .cells #[.int .i64 a0_0, .bool a0_1, .slice A0_2 l0_2.length c0_2] 41 (0, 0)) (by (with_reducible repeat (first | apply kN_ | apply kD_ | apply kA_)); exact BK153.out)) : gb171 ≠ gb153)); have n11_ := As_ ((by rw [hg]; exact Nat.ne_of_lt (blk_lt (g := gb154) (o := .cells #[.int .i64 a1_0, .int .i64 a1_1, .int .i64 a1_2, .slice A1_3 l1_3.length c1_3] 45 (0, 0)) (by (with_reducible repeat (first | apply kN_ | apply kD_ | apply kA_)); exact BK154.out)) : gb154 ≠ gb171)); have n12_ := As_ ((by rw [hg]; exact Nat.ne_of_gt (blk_lt (g := gb154) (o := .cells #[.int .i64 a1_0, .int .i64 a1_1, .int .i64 a1_2, .slice A1_3 l1_3.length c1_3] 45 (0, 0)) (by (with_reducible repeat (first | apply kN_ | apply kD_ | apply kA_)); exact BK154.out)) : gb171 ≠ gb154)); have n13_ := As_ ((by rw [hg]; exact Nat.ne_of_lt (blk_lt (g := gb155) (o := .cells #[.int .i64 0, .bool false, .slice none 0 0] 41 (0, 0)) (by (with_reducible repeat (first | apply kN_ | apply kD_ | apply kA_)); exact BK155.out)) : gb155 ≠ gb171)); have n14_ := As_ ((by rw [hg]; exact Nat.ne_of_gt (blk_lt (g := gb155) (o := .cells #[.int .i64 0, .bool false, .slice none 0 0] 41 (0, 0)) (by (with_reducible repeat (first | apply kN_ | apply kD_ | apply kA_)); exact BK155.out)) : gb171 ≠ gb155)); clear HO_7 HO170 BK153 BK154 BK155 HB; have HO_7 := n0_; have HO170 := n1_; have BK153 := n2_; have BK154 := n3_; have BK155 := n4_; have HB := n5_; have BK171 := n6_; have GW171 := n7_; have GE171 := n8_; have NB153_171 := n9_; have NB171_153 := n10_; have NB154_171 := n11_; have NB171_154 := n12_; have NB155_171 := n13_; have NB171_155 := n14_; clear n0_ n1_ n2_ n3_ n4_ n5_ n6_ n7_ n8_ n9_ n10_ n11_ n12_ n13_ n14_ hb hbox hg; have hnb98 := NB171_153.out; have hnc98 := NB153_171.out; have hnb99 := NB171_154.out; have hnc99 := NB154_171.out; have hnb100 := NB171_155.out; have hnc100 := NB155_171.out; obtain ⟨hcz101_0, hcz101_1, hcz101_2, hfz101_0, hfz101_1, hfz101_2⟩ := blk_all3 BK171.out; obtain ⟨Ao102, co102, eo102⟩ := Kd.R_slice HO170.out; subst eo102; have hnb103 := NB154_155.out; have hnc103 := NB155_154.out; obtain ⟨hcz104_0, hcz104_1, hcz104_2, hcz104_3, hfz104_0, hfz104_1, hfz104_2, hfz104_3⟩ := blk_all4 BK154.out))
        (try simp only [Act.put, List.setIfInBounds_toArray, List.set_cons_zero, List.set_cons_succ])
        go_cut [] (fun wc => ∃ (kq : Nat) (x156000_91 : Int) (x156001_91 : Bool) (x172000_91 : Int) (x172001_91 : Bool) (x172002_91 : List Int) (u172002 : Value), Aside0 (spec_Feed.j1 kq y156 a0_0 a0_1 l0_2 a1_0 a1_1 a1_2 l1_3 x172000_91 x172001_91 x172002_91 = some (r1, r2, r3, r4, r5)) ∧ Aside0 (kq ≤ kj2) ∧ Aside0 (Kd.R (Kd.int .u8) 5 wc w.heap.size (fun k_ => some k_ ≠ (u172002 : Value).ownBlock) v157 y156) ∧ Aside0 (Kd.R (Kd.int .u8) 5 wc w.heap.size (fun k_ => some k_ ≠ (v157 : Value).ownBlock) u172002 x172002_91) ∧ Aside0 (wc.heap[gb153]? = some (.cells #[.int .i64 a0_0, .bool a0_1, (.slice A0_2 l0_2.length c0_2)] 41 (0, 0))) ∧ Aside0 (wc.heap[gb154]? = some (.cells #[.int .i64 a1_0, .int .i64 a1_1, .int .i64 a1_2, (.slice A1_3 l1_3.length c1_3)] 45 (0, 0))) ∧ Aside0 (wc.heap[gb155]? = some (.cells #[.int .i64 x156000_91, .bool x156001_91, (.slice none 0 0)] 41 (0, 0))) ∧ Aside0 (wc.heap[gb171]? = some (.cells #[.int .i64 x172000_91, .bool x172001_91, u172002] 41 (0, 0))) ∧ Aside0 (Below w.heap.size w wc))
        case first =>
          have H := HC92.out
          clear HC92
          by_cases c105 : a1_0 = 1
          · rw [if_pos c105] at H
            have c105b0 : (a1_0 == 1) = true := beq_iff_eq.mpr c105
            have c105b1 : (a1_0 != 1) = false := bne_eq_false_iff_eq.mpr c105
            clear c105
            (first | rw [c105b0] | (simp only [i64_w, i32_w]; rw [c105b0]) | skip)
            replace H := Option.bind_eq_some_iff.mp H
            obtain ⟨⟨t172, t175⟩, A1060, H⟩ := H
            replace H : (if t175 = true then (spec_Feed.j1 kj2 y156 a0_0 a0_1 l0_2 a1_0 a1_1 a1_2 l1_3 a1_2 ((Go.bits .and .i64 a1_1 1) != 0) t172) else ((spec_l8Copy.f a0_0 a0_1 l0_2).bind fun bt176 => (some (bt176.1, bt176.2.1, bt176.2.2, y156, 3)))) = some (r1, r2, r3, r4, r5) := H
            have A106 := Aside0.mk A1060
            clear A1060
            by_cases c107 : t175 = true
            · subst c107
              have H1 : (spec_Feed.j1 kj2 y156 a0_0 a0_1 l0_2 a1_0 a1_1 a1_2 l1_3 a1_2 ((Go.bits .and .i64 a1_1 1) != 0) t172) = some (r1, r2, r3, r4, r5) := by rw [if_pos rfl] at H; exact H
              clear H
              have H := H1
              clear H1
              have H' := Aside0.mk H
              clear H
              have hnb108 := NB154_153.out
              have hnc108 := NB153_154.out
              have hnb109 := NB154_155.out
              have hnc109 := NB155_154.out
              have hnb110 := NB154_171.out
              have hnc110 := NB171_154.out
              obtain ⟨hcz111_0, hcz111_1, hcz111_2, hcz111_3, hfz111_0, hfz111_1, hfz111_2, hfz111_3⟩ := blk_all4 BK154.out
              go_wp2_with (first | ((with_reducible refine gate_callee (f := 57) rfl ?_); refine goesL_ (some 60) rfl rfl Try.func57 (by kernel_rfl) rfl #[.agg #[.int .i64 a1_0, .int .i64 a1_1, .int .i64 a1_2, .slice A1_3 l1_3.length c1_3]] rfl (by (try simp only [List.map_toArray, List.map_cons, List.map_nil]); first | done | rfl | (simp only [List.length_drop, List.length_take]; rfl)) ?_; (with_reducible refine (spec_Unpad.calls kj2 a1_0 a1_1 a1_2 (fun k_ => k_ < w.heap.size) _ _ l1_3 t172 true _ ?side1 A106.out).mono ?_); (case side1 => exact Kd.V_mk HC1_3.out (Kd.F_below (Kd.C_F (Kd.heap_int .u8) HR1_3.out) (by repeat (first | (with_reducible first | exact HB.out | apply bA_ | apply bN_ | apply bD_ | refine bS_ ?_ GE153.out | refine bS_ ?_ GE154.out | refine bS_ ?_ GE155.out | refine bS_ ?_ GE171.out) | exact HB.out)))); rintro e w112 ⟨v173, rfl, ho0, hb⟩; refine ⟨_, rfl, ?_⟩; have n0_ := As_ (Kd.R_elder' (by (with_reducible repeat (first | apply rA_ | apply rN_ | apply rD_)); exact (Kd.R_mono (Kd.R_far (p := ⟨gb171, 2, none⟩) (Kd.R_far (p := ⟨gb171, 1, none⟩) (Kd.R_far (p := ⟨gb171, 0, none⟩) (Kd.R_types HO_7.out BK171.out (by decide)) (fun _ hk => hk.2) (.int .i64 t166)) (fun _ hk => hk.2) (.bool t167)) (fun _ hk => hk.2) (.slice Ao102 t168.length co102)) (fun _ h_ => h_.1))) (Kd.R_base ho0) hb); have n1_ := As_ (Kd.R_elder' (by (with_reducible repeat (first | apply rA_ | apply rN_ | apply rD_)); exact (Kd.R_mono (Kd.R_far (p := ⟨gb171, 2, none⟩) (Kd.R_far (p := ⟨gb171, 1, none⟩) (Kd.R_far (p := ⟨gb171, 0, none⟩) (Kd.R_types HO170.out BK171.out (by decide)) (fun _ hk => hk.2) (.int .i64 t166)) (fun _ hk => hk.2) (.bool t167)) (fun _ hk => hk.2) (.slice Ao102 t168.length co102)) (fun _ h_ => h_.1))) (Kd.R_base ho0) hb); have HO174 := As_ (Kd.R_lower (Kd.R_new' (Kd.R_new' (Kd.R_mono (ok' := fun k_ => True) ho0 (fun _ hk_ => trivial)) (Kd.R_lt (by (with_reducible repeat (first | apply rA_ | apply rN_ | apply rD_)); exact (Kd.R_mono (Kd.R_far (p := ⟨gb171, 2, none⟩) (Kd.R_far (p := ⟨gb171, 1, none⟩) (Kd.R_far (p := ⟨gb171, 0, none⟩) (Kd.R_types HO_7.out BK171.out (by decide)) (fun _ hk => hk.2) (.int .i64 t166)) (fun _ hk => hk.2) (.bool t167)) (fun _ hk => hk.2) (.slice Ao102 t168.length co102)) (fun _ h_ => h_.1))))) (Kd.R_lt (by (with_reducible repeat (first | apply rA_ | apply rN_ | apply rD_)); exact (Kd.R_mono (Kd.R_far (p := ⟨gb171, 2, none⟩) (Kd.R_far (p := ⟨gb171, 1, none⟩) (Kd.R_far (p := ⟨gb171, 0, none⟩) (Kd.R_types HO170.out BK171.out (by decide)) (fun _ hk => hk.2) (.int .i64 t166)) (fun _ hk => hk.2) (.bool t167)) (fun _ hk => hk.2) (.slice Ao102 t168.length co102)) (fun _ h_ => h_.1))))) (below_size (by repeat (first | (with_reducible first | exact HB.out | apply bA_ | apply bN_ | apply bD_ | refine bS_ ?_ GE153.out | refine bS_ ?_ GE154.out | refine bS_ ?_ GE155.out | refine bS_ ?_ GE171.out) | exact HB.out)))); replace BK153 := As_ (blk_below (g := gb153) (o := .cells #[.int .i64 a0_0, .bool a0_1, .slice A0_2 l0_2.length c0_2] 41 (0, 0)) (by (with_reducible repeat (first | apply kN_ | apply kD_ | apply kA_)); refine blk_far ?_ NB153_171.out _; (with_reducible repeat (first | apply kN_ | apply kD_ | apply kA_)); refine blk_far ?_ NB153_171.out _; (with_reducible repeat (first | apply kN_ | apply kD_ | apply kA_)); refine blk_far ?_ NB153_171.out _; (with_reducible repeat (first | apply kN_ | apply kD_ | apply kA_)); exact BK153.out) hb); replace BK154 := As_ (blk_below (g := gb154) (o := .cells #[.int .i64 a1_0, .int .i64 a1_1, .int .i64 a1_2, .slice A1_3 l1_3.length c1_3] 45 (0, 0)) (by (with_reducible repeat (first | apply kN_ | apply kD_ | apply kA_)); refine blk_far ?_ NB154_171.out _; (with_reducible repeat (first | apply kN_ | apply kD_ | apply kA_)); refine blk_far ?_ NB154_171.out _; (with_reducible repeat (first | apply kN_ | apply kD_ | apply kA_)); refine blk_far ?_ NB154_171.out _; (with_reducible repeat (first | apply kN_ | apply kD_ | apply kA_)); exact BK154.out) hb); replace BK155 := As_ (blk_below (g := gb155) (o := .cells #[.int .i64 0, .bool false, .slice none 0 0] 41 (0, 0)) (by (with_reducible repeat (first | apply kN_ | apply kD_ | apply kA_)); refine blk_far ?_ NB155_171.out _; (with_reducible repeat (first | apply kN_ | apply kD_ | apply kA_)); refine blk_far ?_ NB155_171.out _; (with_reducible repeat (first | apply kN_ | apply kD_ | apply kA_)); refine blk_far ?_ NB155_171.out _; (with_reducible repeat (first | apply kN_ | apply kD_ | apply kA_)); exact BK155.out) hb); replace BK171 := As_ (blk_below (g := gb171) (o := .cells #[.int .i64 t166, .bool t167, .slice Ao102 t168.length co102] 41 (0, 0)) (by (with_reducible repeat (first | apply kN_ | apply kD_ | apply kA_)); refine blk_put (cs := #[.int .i64 t166, .bool t167, .slice none 0 0]) ?_ 2 _ rfl; (with_reducible repeat (first | apply kN_ | apply kD_ | apply kA_)); refine blk_put (cs := #[.int .i64 t166, .bool false, .slice none 0 0]) ?_ 1 _ rfl; (with_reducible repeat (first | apply kN_ | apply kD_ | apply kA_)); refine blk_put (cs := #[.int .i64 0, .bool false, .slice none 0 0]) ?_ 0 _ rfl; (with_reducible repeat (first | apply kN_ | apply kD_ | apply kA_)); exact BK171.out) hb); replace HB := As_ (below_step (by repeat (first | (with_reducible first | exact HB.out | apply bA_ | apply bN_ | apply bD_ | refine bS_ ?_ GE153.out | refine bS_ ?_ GE154.out | refine bS_ ?_ GE155.out | refine bS_ ?_ GE171.out) | exact HB.out)) hb); clear HO_7 HO170; have HO_7 := n0_; have HO170 := n1_; clear n0_ n1_; (try clear hb); (try clear hb2); (try clear hk); (try clear hi); (try clear ho0); obtain ⟨hcz113_0, hcz113_1, hcz113_2, hcz113_3, hfz113_0, hfz113_1, hfz113_2, hfz113_3⟩ := blk_all4 BK154.out; obtain ⟨Ao114, co114, eo114⟩ := Kd.R_slice HO174.out; subst eo114; have hnb115 := NB171_153.out; have hnc115 := NB153_171.out; have hnb116 := NB171_155.out; have hnc116 := NB155_171.out; obtain ⟨hcz117_0, hcz117_1, hcz117_2, hfz117_0, hfz117_1, hfz117_2⟩ := blk_all3 BK171.out))
              go_meet
              case rel => exact ⟨_, (0), (false), (a1_2), (((Go.bits .and .i64 a1_1 1) != 0)), (t172), (.slice Ao114 t172.length co114), H', ⟨by have := HJ2.out; first | omega | exact Nat.le_refl _⟩, ⟨by (with_reducible repeat (first | apply rA_ | apply rN_ | apply rD_)); exact Kd.R_mono (Kd.R_far (p := ⟨gb171, 2, none⟩) (Kd.R_far (p := ⟨gb171, 1, none⟩) (Kd.R_far (p := ⟨gb171, 0, none⟩) (Kd.R_types HO_7.out BK171.out (by decide)) (fun _ hk => hk.2) (.int .i64 a1_2)) (fun _ hk => hk.2) (.bool ((Go.bits .and .i64 a1_1 1) != 0))) (fun _ hk => hk.2) (.slice Ao114 t172.length co114)) (fun _ hk => hk.1.2)⟩, ⟨by (with_reducible repeat (first | apply rA_ | apply rN_ | apply rD_)); exact Kd.R_mono (Kd.R_far (p := ⟨gb171, 2, none⟩) (Kd.R_far (p := ⟨gb171, 1, none⟩) (Kd.R_far (p := ⟨gb171, 0, none⟩) (Kd.R_types HO174.out BK171.out (by decide)) (fun _ hk => hk.2) (.int .i64 a1_2)) (fun _ hk => hk.2) (.bool ((Go.bits .and .i64 a1_1 1) != 0))) (fun _ hk => hk.2) (.slice Ao114 t172.length co114)) (fun _ hk => hk.1.1.2)⟩, ⟨by (with_reducible repeat (first | apply kN_ | apply kD_ | apply kA_)); refine blk_far ?_ NB153_171.out _; (with_reducible repeat (first | apply kN_ | apply kD_ | apply kA_)); refine blk_far ?_ NB153_171.out _; (with_reducible repeat (first | apply kN_ | apply kD_ | apply kA_)); refine blk_far ?_ NB153_171.out _; (with_reducible repeat (first | apply kN_ | apply kD_ | apply kA_)); exact BK153.out⟩, ⟨by (with_reducible repeat (first | apply kN_ | apply kD_ | apply kA_)); refine blk_far ?_ NB154_171.out _; (with_reducible repeat (first | apply kN_ | apply kD_ | apply kA_)); refine blk_far ?_ NB154_171.out _; (with_reducible repeat (first | apply kN_ | apply kD_ | apply kA_)); refine blk_far ?_ NB154_171.out _; (with_reducible repeat (first | apply kN_ | apply kD_ | apply kA_)); exact BK154.out⟩, ⟨by (with_reducible repeat (first | apply kN_ | apply kD_ | apply kA_)); refine blk_far ?_ NB155_171.out _; (with_reducible repeat (first | apply kN_ | apply kD_ | apply kA_)); refine blk_far ?_ NB155_171.out _; (with_reducible repeat (first | apply kN_ | apply kD_ | apply kA_)); refine blk_far ?_ NB155_171.out _; (with_reducible repeat (first | apply kN_ | apply kD_ | apply kA_)); exact BK155.out⟩, ⟨by (with_reducible repeat (first | apply kN_ | apply kD_ | apply kA_)); refine blk_put (cs := #[.int .i64 a1_2, .bool ((Go.bits .and .i64 a1_1 1) != 0), .slice Ao102 t168.length co102]) ?_ 2 _ rfl; (with_reducible repeat (first | apply kN_ | apply kD_ | apply kA_)); refine blk_put (cs := #[.int .i64 a1_2, .bool t167, .slice Ao102 t168.length co102]) ?_ 1 _ rfl; (with_reducible repeat (first | apply kN_ | apply kD_ | apply kA_)); refine blk_put (cs := #[.int .i64 t166, .bool t167, .slice Ao102 t168.length co102]) ?_ 0 _ rfl; (with_reducible repeat (first | apply kN_ | apply kD_ | apply kA_)); exact BK171.out⟩, ⟨by repeat (first | (with_reducible first | exact HB.out | apply bA_ | apply bN_ | apply bD_ | refine bS_ ?_ GE153.out | refine bS_ ?_ GE154.out | refine bS_ ?_ GE155.out | refine bS_ ?_ GE171.out) | exact HB.out)⟩⟩
            · replace c107 := Bool.eq_false_iff.mpr c107
              subst c107
              have H1 : ((spec_l8Copy.f a0_0 a0_1 l0_2).bind fun bt176 => (some (bt176.1, bt176.2.1, bt176.2.2, y156, 3))) = some (r1, r2, r3, r4, r5) := by rw [if_neg (show ¬ (false = true) by decide)] at H; exact H
              clear H
              have H := H1
              clear H1
              replace H := Option.bind_eq_some_iff.mp H
              obtain ⟨⟨t176, t177, t178⟩, A1180, H⟩ := H
              replace H : (some (t176, t177, t178, y156, 3)) = some (r1, r2, r3, r4, r5) := H
              have A118 := Aside0.mk A1180
              clear A1180
              simp only [Option.some.injEq, Prod.mk.injEq] at H
              obtain ⟨rfl, rfl, rfl, rfl, rfl⟩ := H
              have hnb119 := NB154_153.out
              have hnc119 := NB153_154.out
              have hnb120 := NB154_155.out
              have hnc120 := NB155_154.out
              have hnb121 := NB154_171.out
              have hnc121 := NB171_154.out
              obtain ⟨hcz122_0, hcz122_1, hcz122_2, hcz122_3, hfz122_0, hfz122_1, hfz122_2, hfz122_3⟩ := blk_all4 BK154.out
              go_wp2_with (first | ((with_reducible refine gate_callee (f := 57) rfl ?_); refine goesL_ (some 60) rfl rfl Try.func57 (by kernel_rfl) rfl #[.agg #[.int .i64 a1_0, .int .i64 a1_1, .int .i64 a1_2, .slice A1_3 l1_3.length c1_3]] rfl (by (try simp only [List.map_toArray, List.map_cons, List.map_nil]); first | done | rfl | (simp only [List.length_drop, List.length_take]; rfl)) ?_; (with_reducible refine (spec_Unpad.calls kj2 a1_0 a1_1 a1_2 (fun k_ => k_ < w.heap.size) _ _ l1_3 t172 false _ ?side1 A106.out).mono ?_); (case side1 => exact Kd.V_mk HC1_3.out (Kd.F_below (Kd.C_F (Kd.heap_int .u8) HR1_3.out) (by repeat (first | (with_reducible first | exact HB.out | apply bA_ | apply bN_ | apply bD_ | refine bS_ ?_ GE153.out | refine bS_ ?_ GE154.out | refine bS_ ?_ GE155.out | refine bS_ ?_ GE171.out) | exact HB.out)))); rintro e w123 ⟨v173, rfl, ho0, hb⟩; refine ⟨_, rfl, ?_⟩; have n0_ := As_ (Kd.R_elder' (by (with_reducible repeat (first | apply rA_ | apply rN_ | apply rD_)); exact (Kd.R_mono (Kd.R_far (p := ⟨gb171, 2, none⟩) (Kd.R_far (p := ⟨gb171, 1, none⟩) (Kd.R_far (p := ⟨gb171, 0, none⟩) (Kd.R_types HO_7.out BK171.out (by decide)) (fun _ hk => hk.2) (.int .i64 t166)) (fun _ hk => hk.2) (.bool t167)) (fun _ hk => hk.2) (.slice Ao102 t168.length co102)) (fun _ h_ => h_.1))) (Kd.R_base ho0) hb); have n1_ := As_ (Kd.R_elder' (by (with_reducible repeat (first | apply rA_ | apply rN_ | apply rD_)); exact (Kd.R_mono (Kd.R_far (p := ⟨gb171, 2, none⟩) (Kd.R_far (p := ⟨gb171, 1, none⟩) (Kd.R_far (p := ⟨gb171, 0, none⟩) (Kd.R_types HO170.out BK171.out (by decide)) (fun _ hk => hk.2) (.int .i64 t166)) (fun _ hk => hk.2) (.bool t167)) (fun _ hk => hk.2) (.slice Ao102 t168.length co102)) (fun _ h_ => h_.1))) (Kd.R_base ho0) hb); have HO174 := As_ (Kd.R_lower (Kd.R_new' (Kd.R_new' (Kd.R_mono (ok' := fun k_ => True) ho0 (fun _ hk_ => trivial)) (Kd.R_lt (by (with_reducible repeat (first | apply rA_ | apply rN_ | apply rD_)); exact (Kd.R_mono (Kd.R_far (p := ⟨gb171, 2, none⟩) (Kd.R_far (p := ⟨gb171, 1, none⟩) (Kd.R_far (p := ⟨gb171, 0, none⟩) (Kd.R_types HO_7.out BK171.out (by decide)) (fun _ hk => hk.2) (.int .i64 t166)) (fun _ hk => hk.2) (.bool t167)) (fun _ hk => hk.2) (.slice Ao102 t168.length co102)) (fun _ h_ => h_.1))))) (Kd.R_lt (by (with_reducible repeat (first | apply rA_ | apply rN_ | apply rD_)); exact (Kd.R_mono (Kd.R_far (p := ⟨gb171, 2, none⟩) (Kd.R_far (p := ⟨gb171, 1, none⟩) (Kd.R_far (p := ⟨gb171, 0, none⟩) (Kd.R_types HO170.out BK171.out (by decide)) (fun _ hk => hk.2) (.int .i64 t166)) (fun _ hk => hk.2) (.bool t167)) (fun _ hk => hk.2) (.slice Ao102 t168.length co102)) (fun _ h_ => h_.1))))) (below_size (by repeat (first | (with_reducible first | exact HB.out | apply bA_ | apply bN_ | apply bD_ | refine bS_ ?_ GE153.out | refine bS_ ?_ GE154.out | refine bS_ ?_ GE155.out | refine bS_ ?_ GE171.out) | exact HB.out)))); replace BK153 := As_ (blk_below (g := gb153) (o := .cells #[.int .i64 a0_0, .bool a0_1, .slice A0_2 l0_2.length c0_2] 41 (0, 0)) (by (with_reducible repeat (first | apply kN_ | apply kD_ | apply kA_)); refine blk_far ?_ NB153_171.out _; (with_reducible repeat (first | apply kN_ | apply kD_ | apply kA_)); refine blk_far ?_ NB153_171.out _; (with_reducible repeat (first | apply kN_ | apply kD_ | apply kA_)); refine blk_far ?_ NB153_171.out _; (with_reducible repeat (first | apply kN_ | apply kD_ | apply kA_)); exact BK153.out) hb); replace BK154 := As_ (blk_below (g := gb154) (o := .cells #[.int .i64 a1_0, .int .i64 a1_1, .int .i64 a1_2, .slice A1_3 l1_3.length c1_3] 45 (0, 0)) (by (with_reducible repeat (first | apply kN_ | apply kD_ | apply kA_)); refine blk_far ?_ NB154_171.out _; (with_reducible repeat (first | apply kN_ | apply kD_ | apply kA_)); refine blk_far ?_ NB154_171.out _; (with_reducible repeat (first | apply kN_ | apply kD_ | apply kA_)); refine blk_far ?_ NB154_171.out _; (with_reducible repeat (first | apply kN_ | apply kD_ | apply kA_)); exact BK154.out) hb); replace BK155 := As_ (blk_below (g := gb155) (o := .cells #[.int .i64 0, .bool false, .slice none 0 0] 41 (0, 0)) (by (with_reducible repeat (first | apply kN_ | apply kD_ | apply kA_)); refine blk_far ?_ NB155_171.out _; (with_reducible repeat (first | apply kN_ | apply kD_ | apply kA_)); refine blk_far ?_ NB155_171.out _; (with_reducible repeat (first | apply kN_ | apply kD_ | apply kA_)); refine blk_far ?_ NB155_171.out _; (with_reducible repeat (first | apply kN_ | apply kD_ | apply kA_)); exact BK155.out) hb); replace BK171 := As_ (blk_below (g := gb171) (o := .cells #[.int .i64 t166, .bool t167, .slice Ao102 t168.length co102] 41 (0, 0)) (by (with_reducible repeat (first | apply kN_ | apply kD_ | apply kA_)); refine blk_put (cs := #[.int .i64 t166, .bool t167, .slice none 0 0]) ?_ 2 _ rfl; (with_reducible repeat (first | apply kN_ | apply kD_ | apply kA_)); refine blk_put (cs := #[.int .i64 t166, .bool false, .slice none 0 0]) ?_ 1 _ rfl; (with_reducible repeat (first | apply kN_ | apply kD_ | apply kA_)); refine blk_put (cs := #[.int .i64 0, .bool false, .slice none 0 0]) ?_ 0 _ rfl; (with_reducible repeat (first | apply kN_ | apply kD_ | apply kA_)); exact BK171.out) hb); replace HB := As_ (below_step (by repeat (first | (with_reducible first | exact HB.out | apply bA_ | apply bN_ | apply bD_ | refine bS_ ?_ GE153.out | refine bS_ ?_ GE154.out | refine bS_ ?_ GE155.out | refine bS_ ?_ GE171.out) | exact HB.out)) hb); clear HO_7 HO170; have HO_7 := n0_; have HO170 := n1_; clear n0_ n1_; (try clear hb); (try clear hb2); (try clear hk); (try clear hi); (try clear ho0); have hnb124 := NB153_155.out; have hnc124 := NB155_153.out; have hnb125 := NB153_171.out; have hnc125 := NB171_153.out; obtain ⟨hcz126_0, hcz126_1, hcz126_2, hfz126_0, hfz126_1, hfz126_2⟩ := blk_all3 BK153.out) | ((with_reducible refine gate_callee (f := 56) rfl ?_); refine goesL_ (some 66) rfl rfl Try.func56 (by kernel_rfl) rfl #[.agg #[.int .i64 a0_0, .bool a0_1, .slice A0_2 l0_2.length c0_2]] rfl (by (try simp only [List.map_toArray, List.map_cons, List.map_nil]); first | done | rfl | (simp only [List.length_drop, List.length_take]; rfl)) ?_; (with_reducible refine (spec_l8Copy.calls a0_0 a0_1 _ _ l0_2 t176 t177 t178 _ ?side1 ?side2 A118.out).mono ?_); (case side1 => repeat (first | exact (Kd.C_below HR0_2.out HB.out) | (with_reducible first | apply cA_ | apply cN_ | apply cD_))); (case side2 => exact HC0_2.out); rintro e w127 ⟨v179, rfl, ho0, hb⟩; refine ⟨_, rfl, ?_⟩; have n0_ := As_ (Kd.R_elder' (by (with_reducible repeat (first | apply rA_ | apply rN_ | apply rD_)); exact HO_7.out) (Kd.R_base ho0) hb); have n1_ := As_ (Kd.R_elder' (by (with_reducible repeat (first | apply rA_ | apply rN_ | apply rD_)); exact HO170.out) (Kd.R_base ho0) hb); have n2_ := As_ (Kd.R_elder' (by (with_reducible repeat (first | apply rA_ | apply rN_ | apply rD_)); exact HO174.out) (Kd.R_base ho0) hb); have HO180 := As_ (Kd.R_lower (Kd.R_new' (Kd.R_new' (Kd.R_new' ho0 (Kd.R_lt (by (with_reducible repeat (first | apply rA_ | apply rN_ | apply rD_)); exact HO_7.out))) (Kd.R_lt (by (with_reducible repeat (first | apply rA_ | apply rN_ | apply rD_)); exact HO170.out))) (Kd.R_lt (by (with_reducible repeat (first | apply rA_ | apply rN_ | apply rD_)); exact HO174.out))) (below_size (by repeat (first | (with_reducible first | exact HB.out | apply bA_ | apply bN_ | apply bD_ | refine bS_ ?_ GE153.out | refine bS_ ?_ GE154.out | refine bS_ ?_ GE155.out | refine bS_ ?_ GE171.out) | exact HB.out)))); replace BK153 := As_ (blk_below (g := gb153) (o := .cells #[.int .i64 a0_0, .bool a0_1, .slice A0_2 l0_2.length c0_2] 41 (0, 0)) (by (with_reducible repeat (first | apply kN_ | apply kD_ | apply kA_)); exact BK153.out) hb); replace BK154 := As_ (blk_below (g := gb154) (o := .cells #[.int .i64 a1_0, .int .i64 a1_1, .int .i64 a1_2, .slice A1_3 l1_3.length c1_3] 45 (0, 0)) (by (with_reducible repeat (first | apply kN_ | apply kD_ | apply kA_)); exact BK154.out) hb); replace BK155 := As_ (blk_below (g := gb155) (o := .cells #[.int .i64 0, .bool false, .slice none 0 0] 41 (0, 0)) (by (with_reducible repeat (first | apply kN_ | apply kD_ | apply kA_)); exact BK155.out) hb); replace BK171 := As_ (blk_below (g := gb171) (o := .cells #[.int .i64 t166, .bool t167, .slice Ao102 t168.length co102] 41 (0, 0)) (by (with_reducible repeat (first | apply kN_ | apply kD_ | apply kA_)); exact BK171.out) hb); replace HB := As_ (below_step (by repeat (first | (with_reducible first | exact HB.out | apply bA_ | apply bN_ | apply bD_ | refine bS_ ?_ GE153.out | refine bS_ ?_ GE154.out | refine bS_ ?_ GE155.out | refine bS_ ?_ GE171.out) | exact HB.out)) hb); clear HO_7 HO170 HO174; have HO_7 := n0_; have HO170 := n1_; have HO174 := n2_; clear n0_ n1_ n2_; (try clear hb); (try clear hb2); (try clear hk); (try clear hi); (try clear ho0); have hnb128 := NB155_171.out; have hnc128 := NB171_155.out; obtain ⟨hcz129_0, hcz129_1, hcz129_2, hfz129_0, hfz129_1, hfz129_2⟩ := blk_all3 BK155.out; obtain ⟨Ao130, co130, eo130⟩ := Kd.R_slice HO180.out; subst eo130))
              refine bodyPost_ret (results_ctt rfl _ _ gb155 41 #[.int .i64 t176, .bool t177, .slice Ao130 t178.length co130] (0, 0) _ rfl (by (with_reducible repeat (first | apply kN_ | apply kD_ | apply kA_)); refine blk_put (cs := #[.int .i64 t176, .bool t177, .slice none 0 0]) ?_ 2 _ rfl; (with_reducible repeat (first | apply kN_ | apply kD_ | apply kA_)); refine blk_put (cs := #[.int .i64 t176, .bool false, .slice none 0 0]) ?_ 1 _ rfl; (with_reducible repeat (first | apply kN_ | apply kD_ | apply kA_)); refine blk_put (cs := #[.int .i64 0, .bool false, .slice none 0 0]) ?_ 0 _ rfl; (with_reducible repeat (first | apply kN_ | apply kD_ | apply kA_)); exact BK155.out) Try.underlying41 rfl (by kernel_rfl)) rfl ?_
              exact ⟨_, _, by first | rfl | (simp [errW_none, errW_some] <;> rfl) | (simp [*, errW_none, errW_some] <;> rfl), by (with_reducible repeat (first | apply rA_ | apply rN_ | apply rD_)); exact Kd.R_mono (Kd.R_far (p := ⟨gb155, 2, none⟩) (Kd.R_far (p := ⟨gb155, 1, none⟩) (Kd.R_far (p := ⟨gb155, 0, none⟩) (Kd.R_types HO180.out BK155.out (by decide)) (fun _ hk => hk.2) (.int .i64 t176)) (fun _ hk => hk.2) (.bool t177)) (fun _ hk => hk.2) (.slice Ao130 t178.length co130)) (fun _ hk => hk.1.1.1.2), by (with_reducible repeat (first | apply rA_ | apply rN_ | apply rD_)); exact Kd.R_mono (Kd.R_far (p := ⟨gb155, 2, none⟩) (Kd.R_far (p := ⟨gb155, 1, none⟩) (Kd.R_far (p := ⟨gb155, 0, none⟩) (Kd.R_types HO_7.out BK155.out (by decide)) (fun _ hk => hk.2) (.int .i64 t176)) (fun _ hk => hk.2) (.bool t177)) (fun _ hk => hk.2) (.slice Ao130 t178.length co130)) (fun _ hk => hk.1.2), by repeat (first | (with_reducible first | exact HB.out | apply bA_ | apply bN_ | apply bD_ | refine bS_ ?_ GE153.out | refine bS_ ?_ GE154.out | refine bS_ ?_ GE155.out | refine bS_ ?_ GE171.out) | exact HB.out)⟩
          · rw [if_neg c105] at H
            have c105b0 : (a1_0 == 1) = false := beq_eq_false_iff_ne.mpr c105
            have c105b1 : (a1_0 != 1) = true := bne_iff_ne.mpr c105
            (first | rw [c105b0] | (simp only [i64_w, i32_w]; rw [c105b0]) | skip)
            by_cases c131 : a1_0 = 9
            · rw [if_pos c131] at H
              have c131b0 : (a1_0 == 9) = true := beq_iff_eq.mpr c131
              have c131b1 : (a1_0 != 9) = false := bne_eq_false_iff_eq.mpr c131
              clear c131
              by_cases c132 : t168.length + l1_3.length < 140737488355328
              · rw [if_pos c132] at H
                have LMc132 := Aside0.mk c132
                clear c132
                obtain ⟨y181, hy181⟩ : ∃ y_ : List Int, y_ = (t168 ++ l1_3) := ⟨_, rfl⟩
                replace H : (spec_Feed.j1 kj2 y156 a0_0 a0_1 l0_2 a1_0 a1_1 a1_2 l1_3 t166 t167 y181) = some (r1, r2, r3, r4, r5) := by first | (rw [hy181]; with_reducible exact H) | (have H2_ := (Option.bind_some _ _).symm.trans H; rw [hy181]; with_reducible exact H2_) | (have H2_ := (Option.bind_some _ _).symm.trans H; with_reducible exact H2_) | with_reducible exact H | (rw [hy181]; exact H) | exact H
                have Ny181 := Aside0.mk hy181
                clear hy181
                have H' := Aside0.mk H
                clear H
                have hnb133 := NB171_153.out
                have hnc133 := NB153_171.out
                have hnb134 := NB171_154.out
                have hnc134 := NB154_171.out
                have hnb135 := NB171_155.out
                have hnc135 := NB155_171.out
                obtain ⟨hcz136_0, hcz136_1, hcz136_2, hfz136_0, hfz136_1, hfz136_2⟩ := blk_all3 BK171.out
                have hnb137 := NB154_153.out
                have hnc137 := NB153_154.out
                have hnb138 := NB154_155.out
                have hnc138 := NB155_154.out
                obtain ⟨hcz139_0, hcz139_1, hcz139_2, hcz139_3, hfz139_0, hfz139_1, hfz139_2, hfz139_3⟩ := blk_all4 BK154.out
                go_wp2_with (first | ((with_reducible refine gate_builtin (b := .append) (xs := #[.tmp 79, .tmp 81]) rfl ?_); at_builtin; refine Kd.R_append_rows (Kd.int .u8) (w0 := w) w.heap.size rfl (.tmp 79) (.tmp 81) 31 5 (.int .u8 0) 1 rfl Try.underlying31 info5 rfl (by decide) (by omega) (.slice Ao102 t168.length co102) t168 l1_3 _ _ _ (fun k_ => some k_ ≠ (v157 : Value).ownBlock) (fun _ => False) rfl rfl ?aO ?aR (fun _ _ h => h) (fun _ h => h.elim) ?aF ?aB ?aS ?aL ?_; (case aR => exact Kd.C_below HR1_3.out (by repeat (first | (with_reducible first | exact HB.out | apply bA_ | apply bN_ | apply bD_ | refine bS_ ?_ GE153.out | refine bS_ ?_ GE154.out | refine bS_ ?_ GE155.out | refine bS_ ?_ GE171.out) | exact HB.out))); (case aB => exact (by repeat (first | (with_reducible first | exact HB.out | apply bA_ | apply bN_ | apply bD_ | refine bS_ ?_ GE153.out | refine bS_ ?_ GE154.out | refine bS_ ?_ GE155.out | refine bS_ ?_ GE171.out) | exact HB.out))); (case aF => exact (fun k_ hk => Kd.fresh' (Kd.R_lt (by (with_reducible repeat (first | apply rA_ | apply rN_ | apply rD_)); exact (Kd.R_mono (Kd.R_far (p := ⟨gb171, 2, none⟩) (Kd.R_far (p := ⟨gb171, 1, none⟩) (Kd.R_far (p := ⟨gb171, 0, none⟩) (Kd.R_types HO_7.out BK171.out (by decide)) (fun _ hk => hk.2) (.int .i64 t166)) (fun _ hk => hk.2) (.bool t167)) (fun _ hk => hk.2) (.slice Ao102 t168.length co102)) (fun _ h_ => h_.1)))) k_ hk)); (case aO => exact (by (with_reducible repeat (first | apply rA_ | apply rN_ | apply rD_)); exact Kd.R_mono (Kd.R_far (p := ⟨gb171, 2, none⟩) (Kd.R_far (p := ⟨gb171, 1, none⟩) (Kd.R_far (p := ⟨gb171, 0, none⟩) (Kd.R_types HO170.out BK171.out (by decide)) (fun _ hk => hk.2) (.int .i64 t166)) (fun _ hk => hk.2) (.bool t167)) (fun _ hk => hk.2) (.slice Ao102 t168.length co102)) (fun _ hk => hk.1.2))); (case aS => exact (below_size (by repeat (first | (with_reducible first | exact HB.out | apply bA_ | apply bN_ | apply bD_ | refine bS_ ?_ GE153.out | refine bS_ ?_ GE154.out | refine bS_ ?_ GE155.out | refine bS_ ?_ GE171.out) | exact HB.out)))); (case aL => have := LMc132.out; omega); intro v182 w140 ho hb hg hat; rw [← Ny181.out] at ho; have n0_ := As_ (Kd.R_after (ok := (fun _ => True)) (by (with_reducible repeat (first | apply rA_ | apply rN_ | apply rD_)); exact Kd.R_mono (Kd.R_far (p := ⟨gb171, 2, none⟩) (Kd.R_far (p := ⟨gb171, 1, none⟩) (Kd.R_far (p := ⟨gb171, 0, none⟩) (Kd.R_types HO_7.out BK171.out (by decide)) (fun _ hk => hk.2) (.int .i64 t166)) (fun _ hk => hk.2) (.bool t167)) (fun _ hk => hk.2) (.slice Ao102 t168.length co102)) (fun _ hk => ⟨trivial, hk.1.2⟩)) hg hat); have n1_ := As_ (blk_grown (g := gb153) (o := .cells #[.int .i64 a0_0, .bool a0_1, .slice A0_2 l0_2.length c0_2] 41 (0, 0)) (by (with_reducible repeat (first | apply kN_ | apply kD_ | apply kA_)); refine blk_far ?_ NB153_171.out _; (with_reducible repeat (first | apply kN_ | apply kD_ | apply kA_)); refine blk_far ?_ NB153_171.out _; (with_reducible repeat (first | apply kN_ | apply kD_ | apply kA_)); refine blk_far ?_ NB153_171.out _; (with_reducible repeat (first | apply kN_ | apply kD_ | apply kA_)); exact BK153.out) hg (Kd.R_ne HO170.out BK153.out (by decide))); have n2_ := As_ (blk_grown (g := gb154) (o := .cells #[.int .i64 a1_0, .int .i64 a1_1, .int .i64 a1_2, .slice A1_3 l1_3.length c1_3] 45 (0, 0)) (by (with_reducible repeat (first | apply kN_ | apply kD_ | apply kA_)); refine blk_far ?_ NB154_171.out _; (with_reducible repeat (first | apply kN_ | apply kD_ | apply kA_)); refine blk_far ?_ NB154_171.out _; (with_reducible repeat (first | apply kN_ | apply kD_ | apply kA_)); refine blk_far ?_ NB154_171.out _; (with_reducible repeat (first | apply kN_ | apply kD_ | apply kA_)); exact BK154.out) hg (Kd.R_ne HO170.out BK154.out (by decide))); have n3_ := As_ (blk_grown (g := gb155) (o := .cells #[.int .i64 0, .bool false, .slice none 0 0] 41 (0, 0)) (by (with_reducible repeat (first | apply kN_ | apply kD_ | apply kA_)); refine blk_far ?_ NB155_171.out _; (with_reducible repeat (first | apply kN_ | apply kD_ | apply kA_)); refine blk_far ?_ NB155_171.out _; (with_reducible repeat (first | apply kN_ | apply kD_ | apply kA_)); refine blk_far ?_ NB155_171.out _; (with_reducible repeat (first | apply kN_ | apply kD_ | apply kA_)); exact BK155.out) hg (Kd.R_ne HO170.out BK155.out (by decide))); have n4_ := As_ (blk_grown (g := gb171) (o := .cells #[.int .i64 t166, .bool t167, .slice Ao102 t168.length co102] 41 (0, 0)) (by (with_reducible repeat (first | apply kN_ | apply kD_ | apply kA_)); refine blk_put (cs := #[.int .i64 t166, .bool t167, .slice none 0 0]) ?_ 2 _ rfl; (with_reducible repeat (first | apply kN_ | apply kD_ | apply kA_)); refine blk_put (cs := #[.int .i64 t166, .bool false, .slice none 0 0]) ?_ 1 _ rfl; (with_reducible repeat (first | apply kN_ | apply kD_ | apply kA_)); refine blk_put (cs := #[.int .i64 0, .bool false, .slice none 0 0]) ?_ 0 _ rfl; (with_reducible repeat (first | apply kN_ | apply kD_ | apply kA_)); exact BK171.out) hg (Kd.R_ne HO170.out BK171.out (by decide))); have n5_ := As_ (hb); have n6_ := As_ (ho); clear HO_7 BK153 BK154 BK155 BK171 HB HO170; have HO_7 := n0_; have BK153 := n1_; have BK154 := n2_; have BK155 := n3_; have BK171 := n4_; have HB := n5_; have HO183 := n6_; clear n0_ n1_ n2_ n3_ n4_ n5_ n6_ ho hb hg hat; obtain ⟨Ao141, co141, eo141⟩ := Kd.R_slice HO183.out; subst eo141; obtain ⟨hcz142_0, hcz142_1, hcz142_2, hfz142_0, hfz142_1, hfz142_2⟩ := blk_all3 BK171.out))
                go_meet
                case rel => exact ⟨_, (0), (false), (t166), (t167), (y181), (.slice Ao141 y181.length co141), H', ⟨by have := HJ2.out; first | omega | exact Nat.le_refl _⟩, ⟨by (with_reducible repeat (first | apply rA_ | apply rN_ | apply rD_)); exact Kd.R_mono (Kd.R_far (p := ⟨gb171, 2, none⟩) (Kd.R_types HO_7.out BK171.out (by decide)) (fun _ hk => hk.2) (.slice Ao141 y181.length co141)) (fun _ hk => hk.1.2)⟩, ⟨by (with_reducible repeat (first | apply rA_ | apply rN_ | apply rD_)); exact Kd.R_mono (Kd.R_far (p := ⟨gb171, 2, none⟩) (Kd.R_types HO183.out BK171.out (by decide)) (fun _ hk => hk.2) (.slice Ao141 y181.length co141)) (fun _ hk => hk.1)⟩, ⟨by (with_reducible repeat (first | apply kN_ | apply kD_ | apply kA_)); refine blk_far ?_ NB153_171.out _; (with_reducible repeat (first | apply kN_ | apply kD_ | apply kA_)); exact BK153.out⟩, ⟨by (with_reducible repeat (first | apply kN_ | apply kD_ | apply kA_)); refine blk_far ?_ NB154_171.out _; (with_reducible repeat (first | apply kN_ | apply kD_ | apply kA_)); exact BK154.out⟩, ⟨by (with_reducible repeat (first | apply kN_ | apply kD_ | apply kA_)); refine blk_far ?_ NB155_171.out _; (with_reducible repeat (first | apply kN_ | apply kD_ | apply kA_)); exact BK155.out⟩, ⟨by (with_reducible repeat (first | apply kN_ | apply kD_ | apply kA_)); refine blk_put (cs := #[.int .i64 t166, .bool t167, .slice Ao102 t168.length co102]) ?_ 2 _ rfl; (with_reducible repeat (first | apply kN_ | apply kD_ | apply kA_)); exact BK171.out⟩, ⟨by repeat (first | (with_reducible first | exact HB.out | apply bA_ | apply bN_ | apply bD_ | refine bS_ ?_ GE153.out | refine bS_ ?_ GE154.out | refine bS_ ?_ GE155.out | refine bS_ ?_ GE171.out) | exact HB.out)⟩⟩
              · rw [if_neg c132] at H
                exact absurd H (by simp)
            · rw [if_neg c131] at H
              have c131b0 : (a1_0 == 9) = false := beq_eq_false_iff_ne.mpr c131
              have c131b1 : (a1_0 != 9) = true := bne_iff_ne.mpr c131
              simp only [Option.some.injEq, Prod.mk.injEq] at H
              obtain ⟨rfl, rfl, rfl, rfl, rfl⟩ := H
              have hnb143 := NB171_153.out
              have hnc143 := NB153_171.out
              have hnb144 := NB171_154.out
              have hnc144 := NB154_171.out
              have hnb145 := NB171_155.out
              have hnc145 := NB155_171.out
              obtain ⟨hcz146_0, hcz146_1, hcz146_2, hfz146_0, hfz146_1, hfz146_2⟩ := blk_all3 BK171.out
              have hnb147 := NB155_153.out
              have hnc147 := NB153_155.out
              have hnb148 := NB155_154.out
              have hnc148 := NB154_155.out
              obtain ⟨hcz149_0, hcz149_1, hcz149_2, hfz149_0, hfz149_1, hfz149_2⟩ := blk_all3 BK155.out
              go_wp2
              refine bodyPost_ret (results_ctt rfl _ _ gb155 41 #[.int .i64 t166, .bool t167, .slice Ao102 t168.length co102] (0, 0) _ rfl (by (with_reducible repeat (first | apply kN_ | apply kD_ | apply kA_)); refine blk_put (cs := #[.int .i64 t166, .bool t167, .slice none 0 0]) ?_ 2 _ rfl; (with_reducible repeat (first | apply kN_ | apply kD_ | apply kA_)); refine blk_put (cs := #[.int .i64 t166, .bool false, .slice none 0 0]) ?_ 1 _ rfl; (with_reducible repeat (first | apply kN_ | apply kD_ | apply kA_)); refine blk_put (cs := #[.int .i64 0, .bool false, .slice none 0 0]) ?_ 0 _ rfl; (with_reducible repeat (first | apply kN_ | apply kD_ | apply kA_)); refine blk_far ?_ NB155_171.out _; (with_reducible repeat (first | apply kN_ | apply kD_ | apply kA_)); refine blk_far ?_ NB155_171.out _; (with_reducible repeat (first | apply kN_ | apply kD_ | apply kA_)); refine blk_far ?_ NB155_171.out _; (with_reducible repeat (first | apply kN_ | apply kD_ | apply kA_)); exact BK155.out) Try.underlying41 rfl (by kernel_rfl)) rfl ?_
              exact ⟨_, _, by first | rfl | (simp [errW_none, errW_some] <;> rfl) | (simp [*, errW_none, errW_some] <;> rfl), by (with_reducible repeat (first | apply rA_ | apply rN_ | apply rD_)); exact Kd.R_mono (Kd.R_far (p := ⟨gb155, 2, none⟩) (Kd.R_far (p := ⟨gb155, 1, none⟩) (Kd.R_far (p := ⟨gb155, 0, none⟩) (Kd.R_far (p := ⟨gb171, 2, none⟩) (Kd.R_far (p := ⟨gb171, 1, none⟩) (Kd.R_far (p := ⟨gb171, 0, none⟩) (Kd.R_types (Kd.R_types HO170.out BK171.out (by decide)) BK155.out (by decide)) (fun _ hk => hk.1.2) (.int .i64 t166)) (fun _ hk => hk.1.2) (.bool t167)) (fun _ hk => hk.1.2) (.slice Ao102 t168.length co102)) (fun _ hk => hk.2) (.int .i64 t166)) (fun _ hk => hk.2) (.bool t167)) (fun _ hk => hk.2) (.slice Ao102 t168.length co102)) (fun _ hk => hk.1.1.2), by (with_reducible repeat (first | apply rA_ | apply rN_ | apply rD_)); exact Kd.R_mono (Kd.R_far (p := ⟨gb155, 2, none⟩) (Kd.R_far (p := ⟨gb155, 1, none⟩) (Kd.R_far (p := ⟨gb155, 0, none⟩) (Kd.R_far (p := ⟨gb171, 2, none⟩) (Kd.R_far (p := ⟨gb171, 1, none⟩) (Kd.R_far (p := ⟨gb171, 0, none⟩) (Kd.R_types (Kd.R_types HO_7.out BK171.out (by decide)) BK155.out (by decide)) (fun _ hk => hk.1.2) (.int .i64 t166)) (fun _ hk => hk.1.2) (.bool t167)) (fun _ hk => hk.1.2) (.slice Ao102 t168.length co102)) (fun _ hk => hk.2) (.int .i64 t166)) (fun _ hk => hk.2) (.bool t167)) (fun _ hk => hk.2) (.slice Ao102 t168.length co102)) (fun _ hk => hk.1.1.2), by repeat (first | (with_reducible first | exact HB.out | apply bA_ | apply bN_ | apply bD_ | refine bS_ ?_ GE153.out | refine bS_ ?_ GE154.out | refine bS_ ?_ GE155.out | refine bS_ ?_ GE171.out) | exact HB.out)⟩
        case rest =>
          clear HC92
          try clear c1
          try clear c2
          try clear p2
          try clear c3
          try clear c4
          try clear c5
          try clear c6
          try clear c7
          try clear c8
          try clear c9
          try clear c10
          try clear c11
          try clear c12
          try clear c12b0
          try clear c12b1
          try clear c13
          try clear c13b0
          try clear c14
          try clear c14b0
          try clear c14b1
          try clear c15
          try clear c15b0
          try clear c15b1
          try clear c16
          try clear c16b0
          try clear c16b1
          try clear c17
          try clear c18
          try clear c21
          try clear c25
          try clear c26
          try clear c27
          try clear c30
          try clear c35
          try clear c36
          try clear c39
          try clear c44
          try clear c45
          try clear c48
          try clear c53
          try clear c53b0
          try clear c53b1
          try clear c54
          try clear c55
          try clear c56
          try clear c57
          try clear c58
          try clear c63
          try clear c64
          try clear c67
          try clear c71
          try clear c72
          try clear c75
          try clear c78
          try clear c79
          try clear c82
          try clear c84
          try clear c85
          try clear c88
          try clear c93
          try clear c94
          try clear c98
          try clear c99
          try clear c100
          try clear c103
          try clear c105
          try clear c105b0
          try clear c105b1
          try clear c107
          try clear c108
          try clear c109
          try clear c110
          try clear c115
          try clear c116
          try clear c119
          try clear c120
          try clear c121
          try clear c124
          try clear c125
          try clear c128
          try clear c131
          try clear c131b0
          try clear c131b1
          try clear c132
          try clear c133
          try clear c134
          try clear c135
          try clear c137
          try clear c138
          try clear c143
          try clear c144
          try clear c145
          try clear c147
          try clear c148
          try clear hcz101_0
          try clear hcz101_1
          try clear hcz101_2
          try clear hcz104_0
          try clear hcz104_1
          try clear hcz104_2
          try clear hcz104_3
          try clear hcz111_0
          try clear hcz111_1
          try clear hcz111_2
          try clear hcz111_3
          try clear hcz113_0
          try clear hcz113_1
          try clear hcz113_2
          try clear hcz113_3
          try clear hcz117_0
          try clear hcz117_1
          try clear hcz117_2
          try clear hcz122_0
          try clear hcz122_1
          try clear hcz122_2
          try clear hcz122_3
          try clear hcz126_0
          try clear hcz126_1
          try clear hcz126_2
          try clear hcz129_0
          try clear hcz129_1
          try clear hcz129_2
          try clear hcz136_0
          try clear hcz136_1
          try clear hcz136_2
          try clear hcz139_0
          try clear hcz139_1
          try clear hcz139_2
          try clear hcz139_3
          try clear hcz142_0
          try clear hcz142_1
          try clear hcz142_2
          try clear hcz146_0
          try clear hcz146_1
          try clear hcz146_2
          try clear hcz149_0
          try clear hcz149_1
          try clear hcz149_2
          try clear hcz19_0
          try clear hcz19_1
          try clear hcz19_2
          try clear hcz22_0
          try clear hcz22_1
          try clear hcz22_2
          try clear hcz22_3
          try clear hcz24_0
          try clear hcz24_1
          try clear hcz24_2
          try clear hcz25_0
          try clear hcz25_1
          try clear hcz25_2
          try clear hcz25_3
          try clear hcz28_0
          try clear hcz28_1
          try clear hcz28_2
          try clear hcz31_0
          try clear hcz31_1
          try clear hcz31_2
          try clear hcz31_3
          try clear hcz33_0
          try clear hcz33_1
          try clear hcz33_2
          try clear hcz34_0
          try clear hcz34_1
          try clear hcz34_2
          try clear hcz34_3
          try clear hcz37_0
          try clear hcz37_1
          try clear hcz37_2
          try clear hcz40_0
          try clear hcz40_1
          try clear hcz40_2
          try clear hcz40_3
          try clear hcz42_0
          try clear hcz42_1
          try clear hcz42_2
          try clear hcz43_0
          try clear hcz43_1
          try clear hcz43_2
          try clear hcz43_3
          try clear hcz46_0
          try clear hcz46_1
          try clear hcz46_2
          try clear hcz49_0
          try clear hcz49_1
          try clear hcz49_2
          try clear hcz49_3
          try clear hcz51_0
          try clear hcz51_1
          try clear hcz51_2
          try clear hcz52_0
          try clear hcz52_1
          try clear hcz52_2
          try clear hcz52_3
          try clear hcz56_0
          try clear hcz56_1
          try clear hcz56_2
          try clear hcz59_0
          try clear hcz59_1
          try clear hcz59_2
          try clear hcz59_3
          try clear hcz61_0
          try clear hcz61_1
          try clear hcz61_2
          try clear hcz62_0
          try clear hcz62_1
          try clear hcz62_2
          try clear hcz62_3
          try clear hcz65_0
          try clear hcz65_1
          try clear hcz65_2
          try clear hcz68_0
          try clear hcz68_1
          try clear hcz68_2
          try clear hcz68_3
          try clear hcz70_0
          try clear hcz70_1
          try clear hcz70_2
          try clear hcz73_0
          try clear hcz73_1
          try clear hcz73_2
          try clear hcz76_0
          try clear hcz76_1
          try clear hcz76_2
          try clear hcz76_3
          try clear hcz80_0
          try clear hcz80_1
          try clear hcz80_2
          try clear hcz86_0
          try clear hcz86_1
          try clear hcz86_2
          try clear hcz89_0
          try clear hcz89_1
          try clear hcz89_2
          try clear hcz95_0
          try clear hcz95_1
          try clear hcz95_2
          try clear hfz101_0
          try clear hfz101_1
          try clear hfz101_2
          try clear hfz104_0
          try clear hfz104_1
          try clear hfz104_2
          try clear hfz104_3
          try clear hfz111_0
          try clear hfz111_1
          try clear hfz111_2
          try clear hfz111_3
          try clear hfz113_0
          try clear hfz113_1
          try clear hfz113_2
          try clear hfz113_3
          try clear hfz117_0
          try clear hfz117_1
          try clear hfz117_2
          try clear hfz122_0
          try clear hfz122_1
          try clear hfz122_2
          try clear hfz122_3
          try clear hfz126_0
          try clear hfz126_1
          try clear hfz126_2
          try clear hfz129_0
          try clear hfz129_1
          try clear hfz129_2
          try clear hfz136_0
          try clear hfz136_1
          try clear hfz136_2
          try clear hfz139_0
          try clear hfz139_1
          try clear hfz139_2
          try clear hfz139_3
          try clear hfz142_0
          try clear hfz142_1
          try clear hfz142_2
          try clear hfz146_0
          try clear hfz146_1
          try clear hfz146_2
          try clear hfz149_0
          try clear hfz149_1
          try clear hfz149_2
          try clear hfz19_0
          try clear hfz19_1
          try clear hfz19_2
          try clear hfz22_0
          try clear hfz22_1
          try clear hfz22_2
          try clear hfz22_3
          try clear hfz24_0
          try clear hfz24_1
          try clear hfz24_2
          try clear hfz25_0
          try clear hfz25_1
          try clear hfz25_2
          try clear hfz25_3
          try clear hfz28_0
          try clear hfz28_1
          try clear hfz28_2
          try clear hfz31_0
          try clear hfz31_1
          try clear hfz31_2
          try clear hfz31_3
          try clear hfz33_0
          try clear hfz33_1
          try clear hfz33_2
          try clear hfz34_0
          try clear hfz34_1
          try clear hfz34_2
          try clear hfz34_3
          try clear hfz37_0
          try clear hfz37_1
          try clear hfz37_2
          try clear hfz40_0
          try clear hfz40_1
          try clear hfz40_2
          try clear hfz40_3
          try clear hfz42_0
          try clear hfz42_1
          try clear hfz42_2
          try clear hfz43_0
          try clear hfz43_1
          try clear hfz43_2
          try clear hfz43_3
          try clear hfz46_0
          try clear hfz46_1
          try clear hfz46_2
          try clear hfz49_0
          try clear hfz49_1
          try clear hfz49_2
          try clear hfz49_3
          try clear hfz51_0
          try clear hfz51_1
          try clear hfz51_2
          try clear hfz52_0
          try clear hfz52_1
          try clear hfz52_2
          try clear hfz52_3
          try clear hfz56_0
          try clear hfz56_1
          try clear hfz56_2
          try clear hfz59_0
          try clear hfz59_1
          try clear hfz59_2
          try clear hfz59_3
          try clear hfz61_0
          try clear hfz61_1
          try clear hfz61_2
          try clear hfz62_0
          try clear hfz62_1
          try clear hfz62_2
          try clear hfz62_3
          try clear hfz65_0
          try clear hfz65_1
          try clear hfz65_2
          try clear hfz68_0
          try clear hfz68_1
          try clear hfz68_2
          try clear hfz68_3
          try clear hfz70_0
          try clear hfz70_1
          try clear hfz70_2
          try clear hfz73_0
          try clear hfz73_1
          try clear hfz73_2
          try clear hfz76_0
          try clear hfz76_1
          try clear hfz76_2
          try clear hfz76_3
          try clear hfz80_0
          try clear hfz80_1
          try clear hfz80_2
          try clear hfz86_0
          try clear hfz86_1
          try clear hfz86_2
          try clear hfz89_0
          try clear hfz89_1
          try clear hfz89_2
          try clear hfz95_0
          try clear hfz95_1
          try clear hfz95_2
          try clear p2
          obtain ⟨kq, x156000_91, x156001_91, x172000_91, x172001_91, x172002_91, u172002, HA, HJ91, HO_7, HO_172002, BK153, BK154, BK155, BK171, HB⟩ := hcut
          cases kq with
          | zero => exact absurd HA.out (by simp [spec_Feed.j1])
          | succ kj91 =>
            have H := HA.out
            clear HA
            simp only [spec_Feed.j1] at H
            by_cases c150 : (x172002_91.length : Int) > 3000
            · rw [if_pos c150] at H
              have c150b0 : decide (3000 < (x172002_91.length : Int)) = true := decide_eq_true c150
              have c150b1 : decide (3000 < x172002_91.length) = true := decide_eq_true (by omega)
              clear c150
              replace H := Option.bind_eq_some_iff.mp H
              obtain ⟨⟨t184, t185, t186⟩, A1510, H⟩ := H
              replace H : (some (t184, t185, t186, y156, 4)) = some (r1, r2, r3, r4, r5) := H
              have A151 := Aside0.mk A1510
              clear A1510
              simp only [Option.some.injEq, Prod.mk.injEq] at H
              obtain ⟨rfl, rfl, rfl, rfl, rfl⟩ := H
              have hnb152 := NB171_153.out
              have hnc152 := NB153_171.out
              have hnb153 := NB171_154.out
              have hnc153 := NB154_171.out
              have hnb154 := NB171_155.out
              have hnc154 := NB155_171.out
              obtain ⟨hcz155_0, hcz155_1, hcz155_2, hfz155_0, hfz155_1, hfz155_2⟩ := blk_all3 BK171.out
              obtain ⟨Ao156, co156, eo156⟩ := Kd.R_slice HO_172002.out
              subst eo156
              have hnb157 := NB153_154.out
              have hnc157 := NB154_153.out
              have hnb158 := NB153_155.out
              have hnc158 := NB155_153.out
              obtain ⟨hcz159_0, hcz159_1, hcz159_2, hfz159_0, hfz159_1, hfz159_2⟩ := blk_all3 BK153.out
              go_wp2_with (first | ((with_reducible refine gate_callee (f := 56) rfl ?_); refine goesL_ (some 89) rfl rfl Try.func56 (by kernel_rfl) rfl #[.agg #[.int .i64 a0_0, .bool a0_1, .slice A0_2 l0_2.length c0_2]] rfl (by (try simp only [List.map_toArray, List.map_cons, List.map_nil]); first | done | rfl | (simp only [List.length_drop, List.length_take]; rfl)) ?_; (with_reducible refine (spec_l8Copy.calls a0_0 a0_1 _ _ l0_2 t184 t185 t186 _ ?side1 ?side2 A151.out).mono ?_); (case side1 => repeat (first | exact (Kd.C_below HR0_2.out HB.out) | (with_reducible first | apply cA_ | apply cN_ | apply cD_))); (case side2 => exact HC0_2.out); rintro e w160 ⟨v187, rfl, ho0, hb⟩; refine ⟨_, rfl, ?_⟩; have n0_ := As_ (Kd.R_elder' (by (with_reducible repeat (first | apply rA_ | apply rN_ | apply rD_)); exact HO_7.out) (Kd.R_base ho0) hb); have n1_ := As_ (Kd.R_elder' (by (with_reducible repeat (first | apply rA_ | apply rN_ | apply rD_)); exact HO_172002.out) (Kd.R_base ho0) hb); have HO188 := As_ (Kd.R_lower (Kd.R_new' (Kd.R_new' ho0 (Kd.R_lt (by (with_reducible repeat (first | apply rA_ | apply rN_ | apply rD_)); exact HO_7.out))) (Kd.R_lt (by (with_reducible repeat (first | apply rA_ | apply rN_ | apply rD_)); exact HO_172002.out))) (below_size (by repeat (first | (with_reducible first | exact HB.out | apply bA_ | apply bN_ | apply bD_ | refine bS_ ?_ GE153.out | refine bS_ ?_ GE154.out | refine bS_ ?_ GE155.out | refine bS_ ?_ GE171.out) | exact HB.out)))); replace BK153 := As_ (blk_below (g := gb153) (o := .cells #[.int .i64 a0_0, .bool a0_1, .slice A0_2 l0_2.length c0_2] 41 (0, 0)) (by (with_reducible repeat (first | apply kN_ | apply kD_ | apply kA_)); exact BK153.out) hb); replace BK154 := As_ (blk_below (g := gb154) (o := .cells #[.int .i64 a1_0, .int .i64 a1_1, .int .i64 a1_2, .slice A1_3 l1_3.length c1_3] 45 (0, 0)) (by (with_reducible repeat (first | apply kN_ | apply kD_ | apply kA_)); exact BK154.out) hb); replace BK155 := As_ (blk_below (g := gb155) (o := .cells #[.int .i64 x156000_91, .bool x156001_91, .slice none 0 0] 41 (0, 0)) (by (with_reducible repeat (first | apply kN_ | apply kD_ | apply kA_)); exact BK155.out) hb); replace BK171 := As_ (blk_below (g := gb171) (o := .cells #[.int .i64 x172000_91, .bool x172001_91, .slice Ao156 x172002_91.length co156] 41 (0, 0)) (by (with_reducible repeat (first | apply kN_ | apply kD_ | apply kA_)); exact BK171.out) hb); replace HB := As_ (below_step (by repeat (first | (with_reducible first | exact HB.out | apply bA_ | apply bN_ | apply bD_ | refine bS_ ?_ GE153.out | refine bS_ ?_ GE154.out | refine bS_ ?_ GE155.out | refine bS_ ?_ GE171.out) | exact HB.out)) hb); clear HO_7 HO_172002; have HO_7 := n0_; have HO_172002 := n1_; clear n0_ n1_; (try clear hb); (try clear hb2); (try clear hk); (try clear hi); (try clear ho0); have hnb161 := NB155_154.out; have hnc161 := NB154_155.out; obtain ⟨hcz162_0, hcz162_1, hcz162_2, hfz162_0, hfz162_1, hfz162_2⟩ := blk_all3 BK155.out; obtain ⟨Ao163, co163, eo163⟩ := Kd.R_slice HO188.out; subst eo163))
              refine bodyPost_ret (results_ctt rfl _ _ gb155 41 #[.int .i64 t184, .bool t185, .slice Ao163 t186.length co163] (0, 0) _ rfl (by (with_reducible repeat (first | apply kN_ | apply kD_ | apply kA_)); refine blk_put (cs := #[.int .i64 t184, .bool t185, .slice none 0 0]) ?_ 2 _ rfl; (with_reducible repeat (first | apply kN_ | apply kD_ | apply kA_)); refine blk_put (cs := #[.int .i64 t184, .bool x156001_91, .slice none 0 0]) ?_ 1 _ rfl; (with_reducible repeat (first | apply kN_ | apply kD_ | apply kA_)); refine blk_put (cs := #[.int .i64 x156000_91, .bool x156001_91, .slice none 0 0]) ?_ 0 _ rfl; (with_reducible repeat (first | apply kN_ | apply kD_ | apply kA_)); exact BK155.out) Try.underlying41 rfl (by kernel_rfl)) rfl ?_
              exact ⟨_, _, by first | rfl | (simp [errW_none, errW_some] <;> rfl) | (simp [*, errW_none, errW_some] <;> rfl), by (with_reducible repeat (first | apply rA_ | apply rN_ | apply rD_)); exact Kd.R_mono (Kd.R_far (p := ⟨gb155, 2, none⟩) (Kd.R_far (p := ⟨gb155, 1, none⟩) (Kd.R_far (p := ⟨gb155, 0, none⟩) (Kd.R_types HO188.out BK155.out (by decide)) (fun _ hk => hk.2) (.int .i64 t184)) (fun _ hk => hk.2) (.bool t185)) (fun _ hk => hk.2) (.slice Ao163 t186.length co163)) (fun _ hk => hk.1.1.2), by (with_reducible repeat (first | apply rA_ | apply rN_ | apply rD_)); exact Kd.R_mono (Kd.R_far (p := ⟨gb155, 2, none⟩) (Kd.R_far (p := ⟨gb155, 1, none⟩) (Kd.R_far (p := ⟨gb155, 0, none⟩) (Kd.R_types HO_7.out BK155.out (by decide)) (fun _ hk => hk.2) (.int .i64 t184)) (fun _ hk => hk.2) (.bool t185)) (fun _ hk => hk.2) (.slice Ao163 t186.length co163)) (fun _ hk => hk.1.2), by repeat (first | (with_reducible first | exact HB.out | apply bA_ | apply bN_ | apply bD_ | refine bS_ ?_ GE153.out | refine bS_ ?_ GE154.out | refine bS_ ?_ GE155.out | refine bS_ ?_ GE171.out) | exact HB.out)⟩
            · rw [if_neg c150] at H
              have c150b0 : decide (3000 < (x172002_91.length : Int)) = false := decide_eq_false c150
              have c150b1 : decide (3000 < x172002_91.length) = false := decide_eq_false (by omega)
              clear c150
              by_cases c164 : (Go.bits .and .i64 a1_1 4) = 0
              · rw [if_pos c164] at H
                have c164b0 : ((Go.bits .and .i64 a1_1 4) == 0) = true := beq_iff_eq.mpr c164
                have c164b1 : ((Go.bits .and .i64 a1_1 4) != 0) = false := bne_eq_false_iff_eq.mpr c164
                clear c164
                simp only [Option.some.injEq, Prod.mk.injEq] at H
                obtain ⟨rfl, rfl, rfl, rfl, rfl⟩ := H
                have hnb165 := NB171_153.out
                have hnc165 := NB153_171.out
                have hnb166 := NB171_154.out
                have hnc166 := NB154_171.out
                have hnb167 := NB171_155.out
                have hnc167 := NB155_171.out
                obtain ⟨hcz168_0, hcz168_1, hcz168_2, hfz168_0, hfz168_1, hfz168_2⟩ := blk_all3 BK171.out
                obtain ⟨Ao169, co169, eo169⟩ := Kd.R_slice HO_172002.out
                subst eo169
                have hnb170 := NB154_153.out
                have hnc170 := NB153_154.out
                have hnb171 := NB154_155.out
                have hnc171 := NB155_154.out
                obtain ⟨hcz172_0, hcz172_1, hcz172_2, hcz172_3, hfz172_0, hfz172_1, hfz172_2, hfz172_3⟩ := blk_all4 BK154.out
                have hnb173 := NB155_153.out
                have hnc173 := NB153_155.out
                obtain ⟨hcz174_0, hcz174_1, hcz174_2, hfz174_0, hfz174_1, hfz174_2⟩ := blk_all3 BK155.out
                go_wp2
                refine bodyPost_ret (results_ctt rfl _ _ gb155 41 #[.int .i64 x172000_91, .bool x172001_91, .slice Ao169 x172002_91.length co169] (0, 0) _ rfl (by (with_reducible repeat (first | apply kN_ | apply kD_ | apply kA_)); refine blk_put (cs := #[.int .i64 x172000_91, .bool x172001_91, .slice none 0 0]) ?_ 2 _ rfl; (with_reducible repeat (first | apply kN_ | apply kD_ | apply kA_)); refine blk_put (cs := #[.int .i64 x172000_91, .bool x156001_91, .slice none 0 0]) ?_ 1 _ rfl; (with_reducible repeat (first | apply kN_ | apply kD_ | apply kA_)); refine blk_put (cs := #[.int .i64 x156000_91, .bool x156001_91, .slice none 0 0]) ?_ 0 _ rfl; (with_reducible repeat (first | apply kN_ | apply kD_ | apply kA_)); exact BK155.out) Try.underlying41 rfl (by kernel_rfl)) rfl ?_
                exact ⟨_, _, by first | rfl | (simp [errW_none, errW_some] <;> rfl) | (simp [*, errW_none, errW_some] <;> rfl), by (with_reducible repeat (first | apply rA_ | apply rN_ | apply rD_)); exact Kd.R_mono (Kd.R_far (p := ⟨gb155, 2, none⟩) (Kd.R_far (p := ⟨gb155, 1, none⟩) (Kd.R_far (p := ⟨gb155, 0, none⟩) (Kd.R_types HO_172002.out BK155.out (by decide)) (fun _ hk => hk.2) (.int .i64 x172000_91)) (fun _ hk => hk.2) (.bool x172001_91)) (fun _ hk => hk.2) (.slice Ao169 x172002_91.length co169)) (fun _ hk => hk.1), by (with_reducible repeat (first | apply rA_ | apply rN_ | apply rD_)); exact Kd.R_mono (Kd.R_far (p := ⟨gb155, 2, none⟩) (Kd.R_far (p := ⟨gb155, 1, none⟩) (Kd.R_far (p := ⟨gb155, 0, none⟩) (Kd.R_types HO_7.out BK155.out (by decide)) (fun _ hk => hk.2) (.int .i64 x172000_91)) (fun _ hk => hk.2) (.bool x172001_91)) (fun _ hk => hk.2) (.slice Ao169 x172002_91.length co169)) (fun _ hk => hk.1), by repeat (first | (with_reducible first | exact HB.out | apply bA_ | apply bN_ | apply bD_ | refine bS_ ?_ GE153.out | refine bS_ ?_ GE154.out | refine bS_ ?_ GE155.out | refine bS_ ?_ GE171.out) | exact HB.out)⟩
              · rw [if_neg c164] at H
                have c164b0 : ((Go.bits .and .i64 a1_1 4) == 0) = false := beq_eq_false_iff_ne.mpr c164
                have c164b1 : ((Go.bits .and .i64 a1_1 4) != 0) = true := bne_iff_ne.mpr c164
                simp only [Option.some.injEq, Prod.mk.injEq] at H
                obtain ⟨rfl, rfl, rfl, rfl, rfl⟩ := H
                have hnb175 := NB171_153.out
                have hnc175 := NB153_171.out
                have hnb176 := NB171_154.out
                have hnc176 := NB154_171.out
                have hnb177 := NB171_155.out
                have hnc177 := NB155_171.out
                obtain ⟨hcz178_0, hcz178_1, hcz178_2, hfz178_0, hfz178_1, hfz178_2⟩ := blk_all3 BK171.out
                obtain ⟨Ao179, co179, eo179⟩ := Kd.R_slice HO_172002.out
                subst eo179
                have hnb180 := NB154_153.out
                have hnc180 := NB153_154.out
                have hnb181 := NB154_155.out
                have hnc181 := NB155_154.out
                obtain ⟨hcz182_0, hcz182_1, hcz182_2, hcz182_3, hfz182_0, hfz182_1, hfz182_2, hfz182_3⟩ := blk_all4 BK154.out
                try go_wp2
                replace HO_7 := As_ (Kd.R_drew HO_7.out)
                replace HO_172002 := As_ (Kd.R_drew HO_172002.out)
                replace BK153 := As_ (blk_drew BK153.out)
                replace BK154 := As_ (blk_drew BK154.out)
                replace BK155 := As_ (blk_drew BK155.out)
                replace BK171 := As_ (blk_drew BK171.out)
                replace HB := As_ (below_drew1 HB.out)
                refine start_ (n := 6) (S := fun w' => w'.cell? ⟨gb171, 0, none⟩ = some (.int .i64 x172000_91) ∧ w'.cell? ⟨gb171, 1, none⟩ = some (.bool x172001_91) ∧ w'.cell? ⟨gb171, 2, none⟩ = some (.slice Ao179 x172002_91.length co179)) (ds := []) #[false, false, false, false, false, false] (by kernel_rfl) rfl rfl ⟨(blk_cell BK171.out 0).trans rfl, (blk_cell BK171.out 1).trans rfl, (blk_cell BK171.out 2).trans rfl⟩ (fun hHeld => ?_)
                generalize wc.drew = w183 at HO_7 HO_172002 BK153 BK154 BK155 BK171 HB hHeld ⊢
                refine pure_ (i := 0) (N := some 95) (v := ?_) (a' := ?_) #[true, false, false, false, false, false] rfl rfl (by kernel_rfl) (fun _ _ _ h => h) (Or.inl ⟨by rfl, ?_⟩) ?_ ?_
                rotate_left
                · intro w'
                  go_simp
                  with_reducible rfl
                rotate_left
                · simp only [Act.put, List.setIfInBounds_toArray, List.set_cons_zero, List.set_cons_succ, i64_w, i32_w]
                  rfl
                refine pure_ (i := 1) (N := some 96) (v := ?_) (a' := ?_) #[true, true, false, false, false, false] rfl rfl (by kernel_rfl) (fun _ _ _ h => h) (Or.inl ⟨by rfl, ?_⟩) ?_ ?_
                rotate_left
                · intro w'
                  go_simp
                  with_reducible rfl
                rotate_left
                · simp only [Act.put, List.setIfInBounds_toArray, List.set_cons_zero, List.set_cons_succ, i64_w, i32_w]
                  rfl
                refine take_ (i := 2) (N := some 97) (v := ?_) (a' := ?_) #[true, true, true, false, false, false] rfl rfl (by kernel_rfl) (fun _ _ _ h => h) (Or.inl ⟨by rfl, ?_⟩) hHeld ?_ ?_
                rotate_left
                · rintro w' ⟨s0, s1, s2⟩
                  go_simp
                  with_reducible rfl
                rotate_left
                · simp only [Act.put, List.setIfInBounds_toArray, List.set_cons_zero, List.set_cons_succ, i64_w, i32_w]
                  rfl
                refine one_ (i := 3) (N := none) #[true, true, true, true, false, false] rfl rfl (by kernel_rfl) (by decide) (fun K hK => ?_)
                have hs184 : w183.cell? ⟨gb155, 0, none⟩ = some (.int .i64 x156000_91) := (blk_cell BK155.out 0).trans rfl
                have hfs184 := blk_frozen BK155.out 0
                have hns184_0 := NB153_155.out
                have hns184_1 := NB154_155.out
                have hns184_3 := NB171_155.out
                have hms184_0 := NB155_153.out
                have hms184_1 := NB155_154.out
                have hms184_3 := NB155_171.out
                have hs185 : w183.cell? ⟨gb155, 1, none⟩ = some (.bool x156001_91) := (blk_cell BK155.out 1).trans rfl
                have hfs185 := blk_frozen BK155.out 1
                have hns185_0 := NB153_155.out
                have hns185_1 := NB154_155.out
                have hns185_3 := NB171_155.out
                have hms185_0 := NB155_153.out
                have hms185_1 := NB155_154.out
                have hms185_3 := NB155_171.out
                have hs186 : w183.cell? ⟨gb155, 2, none⟩ = some (.slice none 0 0) := (blk_cell BK155.out 2).trans rfl
                have hfs186 := blk_frozen BK155.out 2
                have hns186_0 := NB153_155.out
                have hns186_1 := NB154_155.out
                have hns186_3 := NB171_155.out
                have hms186_0 := NB155_153.out
                have hms186_1 := NB155_154.out
                have hms186_3 := NB155_171.out
                refine skip_ (w1 := ?_) (by rfl) rfl ?_ ?_
                rotate_left
                · go_simp
                  rfl
                refine hK.out _ _ ⟨((cell_far (p := ⟨gb155, _, none⟩) NB171_155.out _).trans (((cell_far (p := ⟨gb155, _, none⟩) NB171_155.out _).trans (((cell_far (p := ⟨gb155, _, none⟩) NB171_155.out _).trans (hHeld.1)))))), ((cell_far (p := ⟨gb155, _, none⟩) NB171_155.out _).trans (((cell_far (p := ⟨gb155, _, none⟩) NB171_155.out _).trans (((cell_far (p := ⟨gb155, _, none⟩) NB171_155.out _).trans (hHeld.2.1)))))), ((cell_far (p := ⟨gb155, _, none⟩) NB171_155.out _).trans (((cell_far (p := ⟨gb155, _, none⟩) NB171_155.out _).trans (((cell_far (p := ⟨gb155, _, none⟩) NB171_155.out _).trans (hHeld.2.2))))))⟩ (fun hHeld => ?_)
                clear hK K
                refine pure_ (i := 4) (N := some 5) (v := ?_) (a' := ?_) #[true, true, true, true, true, false] rfl rfl (by kernel_rfl) (fun _ _ _ h => h) (Or.inl ⟨by rfl, ?_⟩) ?_ ?_
                rotate_left
                · intro w'
                  go_simp
                  with_reducible rfl
                rotate_left
                · simp only [Act.put, List.setIfInBounds_toArray, List.set_cons_zero, List.set_cons_succ, i64_w, i32_w]
                  rfl
                refine pure_ (i := 5) (N := some 6) (v := ?_) (a' := ?_) #[true, true, true, true, true, true] rfl rfl (by kernel_rfl) (fun _ _ _ h => h) (Or.inl ⟨by rfl, ?_⟩) ?_ ?_
                rotate_left
                · intro w'
                  go_simp
                  with_reducible rfl
                rotate_left
                · simp only [Act.put, List.setIfInBounds_toArray, List.set_cons_zero, List.set_cons_succ, i64_w, i32_w]
                  rfl
                refine done_ (by kernel_rfl) ?_
                try go_wp2
                refine bodyPost_ret (results_ctt rfl _ _ gb155 41 #[.int .i64 0, .bool false, .slice none 0 0] (0, 0) _ rfl (by (with_reducible repeat (first | apply kN_ | apply kD_ | apply kA_)); refine blk_put (cs := #[.int .i64 0, .bool false, .slice none 0 0]) ?_ 2 _ rfl; (with_reducible repeat (first | apply kN_ | apply kD_ | apply kA_)); refine blk_put (cs := #[.int .i64 0, .bool x156001_91, .slice none 0 0]) ?_ 1 _ rfl; (with_reducible repeat (first | apply kN_ | apply kD_ | apply kA_)); refine blk_put (cs := #[.int .i64 x156000_91, .bool x156001_91, .slice none 0 0]) ?_ 0 _ rfl; (with_reducible repeat (first | apply kN_ | apply kD_ | apply kA_)); exact BK155.out) Try.underlying41 rfl (by kernel_rfl)) rfl ?_
                exact ⟨_, _, by first | rfl | (simp [errW_none, errW_some] <;> rfl) | (simp [*, errW_none, errW_some] <;> rfl), by first | exact Kd.R_nil _ _ _ _ _ | exact Kd.N_nil _ _ _ _ _ | exact Kd.V_nil _ _ _ _ _ | exact Kd.Q_nil _ _ _ _ _ | exact Kd.S_nil _ _ _ _ _, by (with_reducible repeat (first | apply rA_ | apply rN_ | apply rD_)); exact Kd.R_mono (Kd.R_far (p := ⟨gb155, 2, none⟩) (Kd.R_far (p := ⟨gb155, 1, none⟩) (Kd.R_far (p := ⟨gb155, 0, none⟩) (Kd.R_types HO_172002.out BK155.out (by decide)) (fun _ hk => hk.2) (.int .i64 0)) (fun _ hk => hk.2) (.bool false)) (fun _ hk => hk.2) (.slice none 0 0)) (fun _ hk => (by simp [Value.ownBlock])), by repeat (first | (with_reducible first | exact HB.out | apply bA_ | apply bN_ | apply bD_ | refine bS_ ?_ GE153.out | refine bS_ ?_ GE154.out | refine bS_ ?_ GE155.out | refine bS_ ?_ GE171.out) | exact HB.out)⟩

end Go.Proofs.Ytjbecmaibifmlaa.QFnGathered
