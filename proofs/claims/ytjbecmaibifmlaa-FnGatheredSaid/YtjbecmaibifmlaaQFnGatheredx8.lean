/- Contracts of functions of the translation, each with its pure function; printed by a program of this session (wip/pr.py) over the kit's print; no condition of its own. -/
import Derived.Test.YtjbecmaibifmlaaQFnGatheredx0
import Derived.Test.YtjbecmaibifmlaaQFnGatheredx5
import Derived.Test.YtjbecmaibifmlaaQFnGatheredx6
import Derived.Test.YtjbecmaibifmlaaQFnGatheredx7
namespace Go.Proofs.Ytjbecmaibifmlaa.QFnGathered
open Go.RowKit Go.Proofs.YtjbecmaibifmlaaW.PrintWords Go.Proofs.YtjbecmaibifmlaaW.PrintLast Go.Proofs.YtjbecmaibifmlaaW.PrintMore
attribute [local go_sem] max2_int min2_int max_two min_two max_three min_three max_four min_four   -- for this text's walks alone
set_option linter.unusedVariables false
set_option linter.unusedSimpArgs false

/-! ### impl_Feed: function 28 -/
mutual
def impl_Feed.j0 : Nat → Bool → Int → Bool → List Int → Int → Int → Int → List Int → Option (Int × Bool × List Int × List Int × Int)
  | 0, _, _, _, _, _, _, _, _ => none
  | k + 1, x23, x240000, x240001, x240002, x241000, x241001, x241002, x241003 => if x23 = true then ((impl_copyGather.f x240000 x240001 x240002).bind fun bt245 => (some (bt245.1, bt245.2.1, bt245.2.2, ([] : List Int), 2))) else ((impl_copyGather.f x240000 x240001 x240002).bind fun bt250 => (if x241000 = 1 then ((impl_Unpad.f k x241000 x241001 x241002 x241003).bind fun bt256 => (if bt256.2 = true then ((impl_Frame_has.f x241000 x241001 x241002 x241003 1).bind fun t260 => (impl_Feed.j1 k x240000 x240001 x240002 x241000 x241001 x241002 x241003 x241002 t260 bt256.1)) else ((impl_copyGather.f x240000 x240001 x240002).bind fun bt261 => (some (bt261.1, bt261.2.1, bt261.2.2, ([] : List Int), 3))))) else (if x241000 = 9 then (if bt250.2.2.length + x241003.length < 140737488355328 then (impl_Feed.j1 k x240000 x240001 x240002 x241000 x241001 x241002 x241003 bt250.1 bt250.2.1 (bt250.2.2 ++ x241003)) else (none)) else (some (bt250.1, bt250.2.1, bt250.2.2, ([] : List Int), 0)))))
def impl_Feed.j1 : Nat → Int → Bool → List Int → Int → Int → Int → List Int → Int → Bool → List Int → Option (Int × Bool × List Int × List Int × Int)
  | 0, _, _, _, _, _, _, _, _, _, _ => none
  | k + 1, x240000, x240001, x240002, x241000, x241001, x241002, x241003, x256000, x256001, x256002 => if (x256002.length : Int) > 3000 then ((impl_copyGather.f x240000 x240001 x240002).bind fun bt269 => (some (bt269.1, bt269.2.1, bt269.2.2, ([] : List Int), 4))) else ((impl_Frame_has.f x241000 x241001 x241002 x241003 4).bind fun t274 => (if t274 = true then (some (0, false, ([] : List Int), x256002, 1)) else (some (x256000, x256001, x256002, ([] : List Int), 0))))
end
def impl_Feed.f (k : Nat) (a0_0 : Int) (a0_1 : Bool) (l0_2 : List Int) (a1_0 : Int) (a1_1 : Int) (a1_2 : Int) (l1_3 : List Int) : Option (Int × Bool × List Int × List Int × Int) := (impl_GatherOk.f a0_0 a0_1 l0_2).bind fun t242 => (if t242 = true then ((impl_FrameCode.f k a1_0 a1_1 a1_2 l1_3).bind fun t243 => (if t243 = 0 then ((impl_isInOrder.f a0_0 a0_1 l0_2 a1_0 a1_1 a1_2 l1_3).bind fun t244 => (impl_Feed.j0 k (!t244) a0_0 a0_1 l0_2 a1_0 a1_1 a1_2 l1_3)) else (impl_Feed.j0 k true a0_0 a0_1 l0_2 a1_0 a1_1 a1_2 l1_3))) else (impl_Feed.j0 k true a0_0 a0_1 l0_2 a1_0 a1_1 a1_2 l1_3))
theorem impl_Feed.mono_l : ∀ k, (∀ y0 y1 y2 y3 y4 y5 y6 y7, LeO (impl_Feed.j0 k y0 y1 y2 y3 y4 y5 y6 y7) (impl_Feed.j0 (k + 1) y0 y1 y2 y3 y4 y5 y6 y7)) ∧ (∀ y0 y1 y2 y3 y4 y5 y6 y7 y8 y9, LeO (impl_Feed.j1 k y0 y1 y2 y3 y4 y5 y6 y7 y8 y9) (impl_Feed.j1 (k + 1) y0 y1 y2 y3 y4 y5 y6 y7 y8 y9))
  | 0 => ⟨fun _ _ _ _ _ _ _ _ r h => by simp [impl_Feed.j0] at h, fun _ _ _ _ _ _ _ _ _ _ r h => by simp [impl_Feed.j1] at h⟩
  | k + 1 => by
    obtain ⟨ih0, ih1⟩ := impl_Feed.mono_l k
    refine ⟨?_, ?_⟩
    · intro y0 y1 y2 y3 y4 y5 y6 y7
      unfold impl_Feed.j0
      repeat' first
      | (with_reducible exact ih0 _ _ _ _ _ _ _ _)
      | (with_reducible exact ih1 _ _ _ _ _ _ _ _ _ _)
      | (with_reducible exact impl_FrameCode.mono _ _ _ _ _)
      | (with_reducible exact impl_Unpad.mono _ _ _ _ _)
      | (with_reducible exact LeO.refl _)
      | (with_reducible exact LeO.none _)
      | (with_reducible refine LeO.ite ?_ ?_)
      | (with_reducible refine LeO.bind ?_ (fun _ => ?_))
      | exact ih0 _ _ _ _ _ _ _ _
      | exact ih1 _ _ _ _ _ _ _ _ _ _
      | exact impl_FrameCode.mono _ _ _ _ _
      | exact impl_Unpad.mono _ _ _ _ _
      | exact LeO.none _
      | refine LeO.ite ?_ ?_
      | refine LeO.bind ?_ (fun _ => ?_)
    · intro y0 y1 y2 y3 y4 y5 y6 y7 y8 y9
      unfold impl_Feed.j1
      repeat' first
      | (with_reducible exact ih0 _ _ _ _ _ _ _ _)
      | (with_reducible exact ih1 _ _ _ _ _ _ _ _ _ _)
      | (with_reducible exact impl_FrameCode.mono _ _ _ _ _)
      | (with_reducible exact impl_Unpad.mono _ _ _ _ _)
      | (with_reducible exact LeO.refl _)
      | (with_reducible exact LeO.none _)
      | (with_reducible refine LeO.ite ?_ ?_)
      | (with_reducible refine LeO.bind ?_ (fun _ => ?_))
      | exact ih0 _ _ _ _ _ _ _ _
      | exact ih1 _ _ _ _ _ _ _ _ _ _
      | exact impl_FrameCode.mono _ _ _ _ _
      | exact impl_Unpad.mono _ _ _ _ _
      | exact LeO.none _
      | refine LeO.ite ?_ ?_
      | refine LeO.bind ?_ (fun _ => ?_)
theorem impl_Feed.mono : ∀ a0 a1 a2 a3 a4 a5 a6 k, LeO (impl_Feed.f k a0 a1 a2 a3 a4 a5 a6) (impl_Feed.f (k + 1) a0 a1 a2 a3 a4 a5 a6) := by
  intro a0 a1 a2 a3 a4 a5 a6 k
  obtain ⟨ih0, ih1⟩ := impl_Feed.mono_l k
  unfold impl_Feed.f
  repeat' first
      | (with_reducible exact ih0 _ _ _ _ _ _ _ _)
      | (with_reducible exact ih1 _ _ _ _ _ _ _ _ _ _)
      | (with_reducible exact impl_FrameCode.mono _ _ _ _ _)
      | (with_reducible exact impl_Unpad.mono _ _ _ _ _)
      | (with_reducible exact LeO.refl _)
      | (with_reducible exact LeO.none _)
      | (with_reducible refine LeO.ite ?_ ?_)
      | (with_reducible refine LeO.bind ?_ (fun _ => ?_))
      | exact ih0 _ _ _ _ _ _ _ _
      | exact ih1 _ _ _ _ _ _ _ _ _ _
      | exact impl_FrameCode.mono _ _ _ _ _
      | exact impl_Unpad.mono _ _ _ _ _
      | exact LeO.none _
      | refine LeO.ite ?_ ?_
      | refine LeO.bind ?_ (fun _ => ?_)
set_option maxHeartbeats 8000000 in
set_option maxRecDepth 100000 in
theorem impl_Feed.calls (k : Nat) (a0_0 : Int) (a0_1 : Bool) (A0_2 : Option Addr) (c0_2 : Nat) (l0_2 : List Int) (a1_0 : Int) (a1_1 : Int) (a1_2 : Int) (A1_3 : Option Addr) (c1_3 : Nat) (l1_3 : List Int) (r1 : Int) (r2 : Bool) (r3 : List Int) (r4 : List Int) (r5 : Int) (w : World) (hr0_2 : Kd.C (Kd.int .u8) w A0_2 l0_2.length l0_2) (hc0_2 : l0_2.length ≤ c0_2) (hr1_3 : Kd.C (Kd.int .u8) w A1_3 l1_3.length l1_3) (hc1_3 : l1_3.length ≤ c1_3) (h : impl_Feed.f k a0_0 a0_1 l0_2 a1_0 a1_1 a1_2 l1_3 = some (r1, r2, r3, r4, r5)) :
    Calls Try.prog 28 #[.agg #[.int .i64 a0_0, .bool a0_1, .slice A0_2 l0_2.length c0_2], .agg #[.int .i64 a1_0, .int .i64 a1_1, .int .i64 a1_2, .slice A1_3 l1_3.length c1_3]] w fun e w' => ∃ v2_ v3_ : Value, e = .returned (.tuple #[.agg #[.int .i64 r1, .bool r2, v2_], v3_, .int .i64 r5]) ∧ Kd.R (Kd.int .u8) 5 w' w.heap.size (fun k_ => some k_ ≠ (v3_ : Value).ownBlock) v2_ r3 ∧ Kd.R (Kd.int .u8) 5 w' w.heap.size (fun k_ => some k_ ≠ (v2_ : Value).ownBlock) v3_ r4 ∧ Below w.heap.size w w' := by
  have hu41 := Try.underlying41
  have hu45 := Try.underlying45
  have HR0_2 := Aside0.mk hr0_2
  have HC0_2 := Aside0.mk hc0_2
  clear hr0_2 hc0_2
  have HR1_3 := Aside0.mk hr1_3
  have HC1_3 := Aside0.mk hc1_3
  clear hr1_3 hc1_3
  have HB := As_ (Below.refl w.heap.size w)
  have H : ((impl_GatherOk.f a0_0 a0_1 l0_2).bind fun t242 => (if t242 = true then ((impl_FrameCode.f k a1_0 a1_1 a1_2 l1_3).bind fun t243 => (if t243 = 0 then ((impl_isInOrder.f a0_0 a0_1 l0_2 a1_0 a1_1 a1_2 l1_3).bind fun t244 => (impl_Feed.j0 k (!t244) a0_0 a0_1 l0_2 a1_0 a1_1 a1_2 l1_3)) else (impl_Feed.j0 k true a0_0 a0_1 l0_2 a1_0 a1_1 a1_2 l1_3))) else (impl_Feed.j0 k true a0_0 a0_1 l0_2 a1_0 a1_1 a1_2 l1_3))) = some (r1, r2, r3, r4, r5) := h
  clear h
  have HC3 := Aside0.mk H
  clear H
  go_enter Try.func28, Try.ntmps28
  go_upto_region 1 with (first | ((with_reducible refine gate_dst (N := 2) rfl ?_); refine box_event ?hg (N := 2) ?hd (cs := #[.int .i64 a0_0, .bool a0_1, .slice A0_2 l0_2.length c0_2]) (t := 41) ?hr ?_; (case hd => rfl); (case hg => rfl); (case hr => first | (go_simp; done) | (go_simp; rfl)); intro gb239 hg w4 hbox hb; have n0_ := As_ (below_step (by repeat (first | (with_reducible first | exact HB.out | apply bA_ | apply bN_ | apply bD_) | exact HB.out)) hb); have n1_ := As_ (hbox); have n2_ := As_ ((by rw [hg]; exact (below_size (by repeat (first | (with_reducible first | exact HB.out | apply bA_ | apply bN_ | apply bD_) | exact HB.out))) : w.heap.size ≤ gb239)); have n3_ := As_ ((by rw [hg]; exact (below_size (by repeat (first | (with_reducible first | exact HB.out | apply bA_ | apply bN_ | apply bD_) | exact HB.out))) : w.heap.size ≤ gb239)); clear HB; have HB := n0_; have BK239 := n1_; have GW239 := n2_; have GE239 := n3_; clear n0_ n1_ n2_ n3_ hb hbox hg) | ((with_reducible refine gate_dst (N := 3) rfl ?_); refine box_event ?hg (N := 3) ?hd (cs := #[.int .i64 a1_0, .int .i64 a1_1, .int .i64 a1_2, .slice A1_3 l1_3.length c1_3]) (t := 45) ?hr ?_; (case hd => rfl); (case hg => rfl); (case hr => first | (go_simp; done) | (go_simp; rfl)); intro gb240 hg w5 hbox hb; have n0_ := As_ (blk_below (g := gb239) (o := .cells #[.int .i64 a0_0, .bool a0_1, .slice A0_2 l0_2.length c0_2] 41 (0, 0)) (by (with_reducible repeat (first | apply kN_ | apply kD_ | apply kA_)); exact BK239.out) hb); have n1_ := As_ (below_step (by repeat (first | (with_reducible first | exact HB.out | apply bA_ | apply bN_ | apply bD_ | refine bS_ ?_ GE239.out) | exact HB.out)) hb); have n2_ := As_ (hbox); have n3_ := As_ ((by rw [hg]; exact (below_size (by repeat (first | (with_reducible first | exact HB.out | apply bA_ | apply bN_ | apply bD_ | refine bS_ ?_ GE239.out) | exact HB.out))) : w.heap.size ≤ gb240)); have n4_ := As_ ((by rw [hg]; exact (below_size (by repeat (first | (with_reducible first | exact HB.out | apply bA_ | apply bN_ | apply bD_ | refine bS_ ?_ GE239.out) | exact HB.out))) : w.heap.size ≤ gb240)); have n5_ := As_ ((by rw [hg]; exact Nat.ne_of_lt (blk_lt (g := gb239) (o := .cells #[.int .i64 a0_0, .bool a0_1, .slice A0_2 l0_2.length c0_2] 41 (0, 0)) (by (with_reducible repeat (first | apply kN_ | apply kD_ | apply kA_)); exact BK239.out)) : gb239 ≠ gb240)); have n6_ := As_ ((by rw [hg]; exact Nat.ne_of_gt (blk_lt (g := gb239) (o := .cells #[.int .i64 a0_0, .bool a0_1, .slice A0_2 l0_2.length c0_2] 41 (0, 0)) (by (with_reducible repeat (first | apply kN_ | apply kD_ | apply kA_)); exact BK239.out)) : gb240 ≠ gb239)); clear BK239 HB; have BK239 := n0_; have HB := n1_; have BK240 := n2_; have GW240 := n3_; have GE240 := n4_; have NB239_240 := n5_; have NB240_239 := n6_; clear n0_ n1_ n2_ n3_ n4_ n5_ n6_ hb hbox hg) | ((with_reducible refine gate_dst (N := 4) rfl ?_); refine box_event ?hg (N := 4) ?hd (cs := #[.int .i64 0, .bool false, .slice none 0 0]) (t := 41) ?hr ?_; (case hd => rfl); (case hg => rfl); (case hr => first | (go_simp; done) | (go_simp; rfl)); intro gb241 hg w6 hbox hb; have n0_ := As_ (blk_below (g := gb239) (o := .cells #[.int .i64 a0_0, .bool a0_1, .slice A0_2 l0_2.length c0_2] 41 (0, 0)) (by (with_reducible repeat (first | apply kN_ | apply kD_ | apply kA_)); exact BK239.out) hb); have n1_ := As_ (blk_below (g := gb240) (o := .cells #[.int .i64 a1_0, .int .i64 a1_1, .int .i64 a1_2, .slice A1_3 l1_3.length c1_3] 45 (0, 0)) (by (with_reducible repeat (first | apply kN_ | apply kD_ | apply kA_)); exact BK240.out) hb); have n2_ := As_ (below_step (by repeat (first | (with_reducible first | exact HB.out | apply bA_ | apply bN_ | apply bD_ | refine bS_ ?_ GE239.out | refine bS_ ?_ GE240.out) | exact HB.out)) hb); have n3_ := As_ (hbox); have n4_ := As_ ((by rw [hg]; exact (below_size (by repeat (first | (with_reducible first | exact HB.out | apply bA_ | apply bN_ | apply bD_ | refine bS_ ?_ GE239.out | refine bS_ ?_ GE240.out) | exact HB.out))) : w.heap.size ≤ gb241)); have n5_ := As_ ((by rw [hg]; exact (below_size (by repeat (first | (with_reducible first | exact HB.out | apply bA_ | apply bN_ | apply bD_ | refine bS_ ?_ GE239.out | refine bS_ ?_ GE240.out) | exact HB.out))) : w.heap.size ≤ gb241)); have n6_ := As_ ((by rw [hg]; exact Nat.ne_of_lt (blk_lt (g := gb239) (o := .cells #[.int .i64 a0_0, .bool a0_1, .slice A0_2 l0_2.length c0_2] 41 (0, 0)) (by (with_reducible repeat (first | apply kN_ | apply kD_ | apply kA_)); exact BK239.out)) : gb239 ≠ gb241)); have n7_ := As_ ((by rw [hg]; exact Nat.ne_of_gt (blk_lt (g := gb239) (o := .cells #[.int .i64 a0_0, .bool a0_1, .slice A0_2 l0_2.length c0_2] 41 (0, 0)) (by (with_reducible repeat (first | apply kN_ | apply kD_ | apply kA_)); exact BK239.out)) : gb241 ≠ gb239)); have n8_ := As_ ((by rw [hg]; exact Nat.ne_of_lt (blk_lt (g := gb240) (o := .cells #[.int .i64 a1_0, .int .i64 a1_1, .int .i64 a1_2, .slice A1_3 l1_3.length c1_3] 45 (0, 0)) (by (with_reducible repeat (first | apply kN_ | apply kD_ | apply kA_)); exact BK240.out)) : gb240 ≠ gb241)); have n9_ := As_ ((by rw [hg]; exact Nat.ne_of_gt (blk_lt (g := gb240) (o := .cells #[.int .i64 a1_0, .int .i64 a1_1, .int .i64 a1_2, .slice A1_3 l1_3.length c1_3] 45 (0, 0)) (by (with_reducible repeat (first | apply kN_ | apply kD_ | apply kA_)); exact BK240.out)) : gb241 ≠ gb240)); clear BK239 BK240 HB; have BK239 := n0_; have BK240 := n1_; have HB := n2_; have BK241 := n3_; have GW241 := n4_; have GE241 := n5_; have NB239_241 := n6_; have NB241_239 := n7_; have NB240_241 := n8_; have NB241_240 := n9_; clear n0_ n1_ n2_ n3_ n4_ n5_ n6_ n7_ n8_ n9_ hb hbox hg))
  (try simp only [Act.put, List.setIfInBounds_toArray, List.set_cons_zero, List.set_cons_succ])
  go_cut [23] (fun v23 wc => ∃ (kq : Nat) (x23_2 : Bool), v23 = .bool x23_2 ∧ Aside0 (impl_Feed.j0 kq x23_2 a0_0 a0_1 l0_2 a1_0 a1_1 a1_2 l1_3 = some (r1, r2, r3, r4, r5)) ∧ Aside0 (kq ≤ k) ∧ Aside0 (wc.heap[gb239]? = some (.cells #[.int .i64 a0_0, .bool a0_1, (.slice A0_2 l0_2.length c0_2)] 41 (0, 0))) ∧ Aside0 (wc.heap[gb240]? = some (.cells #[.int .i64 a1_0, .int .i64 a1_1, .int .i64 a1_2, (.slice A1_3 l1_3.length c1_3)] 45 (0, 0))) ∧ Aside0 (wc.heap[gb241]? = some (.cells #[.int .i64 0, .bool false, (.slice none 0 0)] 41 (0, 0))) ∧ Aside0 (Below w.heap.size w wc))
  case first =>
    have H := HC3.out
    clear HC3
    replace H := Option.bind_eq_some_iff.mp H
    obtain ⟨t242, A70, H⟩ := H
    replace H : (if t242 = true then ((impl_FrameCode.f k a1_0 a1_1 a1_2 l1_3).bind fun t243 => (if t243 = 0 then ((impl_isInOrder.f a0_0 a0_1 l0_2 a1_0 a1_1 a1_2 l1_3).bind fun t244 => (impl_Feed.j0 k (!t244) a0_0 a0_1 l0_2 a1_0 a1_1 a1_2 l1_3)) else (impl_Feed.j0 k true a0_0 a0_1 l0_2 a1_0 a1_1 a1_2 l1_3))) else (impl_Feed.j0 k true a0_0 a0_1 l0_2 a1_0 a1_1 a1_2 l1_3)) = some (r1, r2, r3, r4, r5) := H
    have A7 := Aside0.mk A70
    clear A70
    by_cases c8 : t242 = true
    · subst c8
      have H1 : ((impl_FrameCode.f k a1_0 a1_1 a1_2 l1_3).bind fun t243 => (if t243 = 0 then ((impl_isInOrder.f a0_0 a0_1 l0_2 a1_0 a1_1 a1_2 l1_3).bind fun t244 => (impl_Feed.j0 k (!t244) a0_0 a0_1 l0_2 a1_0 a1_1 a1_2 l1_3)) else (impl_Feed.j0 k true a0_0 a0_1 l0_2 a1_0 a1_1 a1_2 l1_3))) = some (r1, r2, r3, r4, r5) := by rw [if_pos rfl] at H; exact H
      clear H
      have H := H1
      clear H1
      replace H := Option.bind_eq_some_iff.mp H
      obtain ⟨t243, A90, H⟩ := H
      replace H : (if t243 = 0 then ((impl_isInOrder.f a0_0 a0_1 l0_2 a1_0 a1_1 a1_2 l1_3).bind fun t244 => (impl_Feed.j0 k (!t244) a0_0 a0_1 l0_2 a1_0 a1_1 a1_2 l1_3)) else (impl_Feed.j0 k true a0_0 a0_1 l0_2 a1_0 a1_1 a1_2 l1_3)) = some (r1, r2, r3, r4, r5) := H
      have A9 := Aside0.mk A90
      clear A90
      by_cases c10 : t243 = 0
      · rw [if_pos c10] at H
        have c10b0 : (t243 == 0) = true := beq_iff_eq.mpr c10
        have c10b1 : (t243 != 0) = false := bne_eq_false_iff_eq.mpr c10
        clear c10
        (first | rw [c10b0] | (simp only [i64_w, i32_w]; rw [c10b0]) | skip)
        replace H := Option.bind_eq_some_iff.mp H
        obtain ⟨t244, A110, H⟩ := H
        replace H : (impl_Feed.j0 k (!t244) a0_0 a0_1 l0_2 a1_0 a1_1 a1_2 l1_3) = some (r1, r2, r3, r4, r5) := H
        have A11 := Aside0.mk A110
        clear A110
        have H' := Aside0.mk H
        clear H
        have hnb12 := NB239_240.out
        have hnc12 := NB240_239.out
        have hnb13 := NB239_241.out
        have hnc13 := NB241_239.out
        obtain ⟨hcz14_0, hcz14_1, hcz14_2, hfz14_0, hfz14_1, hfz14_2⟩ := blk_all3 BK239.out
        go_wp2_with (first | ((with_reducible refine gate_callee (f := 38) rfl ?_); refine goesL_ (some 11) rfl rfl Try.func38 (by kernel_rfl) rfl #[.agg #[.int .i64 a0_0, .bool a0_1, .slice A0_2 l0_2.length c0_2]] rfl (by (try simp only [List.map_toArray, List.map_cons, List.map_nil]); first | done | rfl | (simp only [List.length_drop, List.length_take]; rfl)) ?_; (with_reducible refine (impl_GatherOk.calls a0_0 a0_1 _ _ l0_2 true _ ?side1 ?side2 A7.out).mono ?_); (case side1 => repeat (first | exact (Kd.C_below HR0_2.out HB.out) | (with_reducible first | apply cA_ | apply cN_ | apply cD_))); (case side2 => exact HC0_2.out); rintro e w15 ⟨rfl, hb⟩; refine ⟨_, rfl, ?_⟩; replace BK239 := As_ (blk_below (g := gb239) (o := .cells #[.int .i64 a0_0, .bool a0_1, .slice A0_2 l0_2.length c0_2] 41 (0, 0)) (by (with_reducible repeat (first | apply kN_ | apply kD_ | apply kA_)); exact BK239.out) hb); replace BK240 := As_ (blk_below (g := gb240) (o := .cells #[.int .i64 a1_0, .int .i64 a1_1, .int .i64 a1_2, .slice A1_3 l1_3.length c1_3] 45 (0, 0)) (by (with_reducible repeat (first | apply kN_ | apply kD_ | apply kA_)); exact BK240.out) hb); replace BK241 := As_ (blk_below (g := gb241) (o := .cells #[.int .i64 0, .bool false, .slice none 0 0] 41 (0, 0)) (by (with_reducible repeat (first | apply kN_ | apply kD_ | apply kA_)); exact BK241.out) hb); replace HB := As_ (below_step (by repeat (first | (with_reducible first | exact HB.out | apply bA_ | apply bN_ | apply bD_ | refine bS_ ?_ GE239.out | refine bS_ ?_ GE240.out | refine bS_ ?_ GE241.out) | exact HB.out)) hb); (try clear hb); (try clear hb2); (try clear hk); (try clear hi); have hnb16 := NB240_241.out; have hnc16 := NB241_240.out; obtain ⟨hcz17_0, hcz17_1, hcz17_2, hcz17_3, hfz17_0, hfz17_1, hfz17_2, hfz17_3⟩ := blk_all4 BK240.out) | (go_at_call 59; (with_reducible refine (impl_FrameCode.calls k a1_0 a1_1 a1_2 _ _ l1_3 t243 _ ?side1 ?side2 A9.out).mono ?_); (case side1 => repeat (first | exact (Kd.C_below HR1_3.out HB.out) | (with_reducible first | apply cA_ | apply cN_ | apply cD_))); (case side2 => exact HC1_3.out); rintro e w18 ⟨rfl, hb⟩; replace BK239 := As_ (blk_below (g := gb239) (o := .cells #[.int .i64 a0_0, .bool a0_1, .slice A0_2 l0_2.length c0_2] 41 (0, 0)) (by (with_reducible repeat (first | apply kN_ | apply kD_ | apply kA_)); exact BK239.out) hb); replace BK240 := As_ (blk_below (g := gb240) (o := .cells #[.int .i64 a1_0, .int .i64 a1_1, .int .i64 a1_2, .slice A1_3 l1_3.length c1_3] 45 (0, 0)) (by (with_reducible repeat (first | apply kN_ | apply kD_ | apply kA_)); exact BK240.out) hb); replace BK241 := As_ (blk_below (g := gb241) (o := .cells #[.int .i64 0, .bool false, .slice none 0 0] 41 (0, 0)) (by (with_reducible repeat (first | apply kN_ | apply kD_ | apply kA_)); exact BK241.out) hb); replace HB := As_ (below_step (by repeat (first | (with_reducible first | exact HB.out | apply bA_ | apply bN_ | apply bD_ | refine bS_ ?_ GE239.out | refine bS_ ?_ GE240.out | refine bS_ ?_ GE241.out) | exact HB.out)) hb); (try clear hb); (try clear hb2); (try clear hk); (try clear hi); obtain ⟨hcz19_0, hcz19_1, hcz19_2, hfz19_0, hfz19_1, hfz19_2⟩ := blk_all3 BK239.out; obtain ⟨hcz20_0, hcz20_1, hcz20_2, hcz20_3, hfz20_0, hfz20_1, hfz20_2, hfz20_3⟩ := blk_all4 BK240.out) | (go_at_call 60; (with_reducible refine (impl_isInOrder.calls a0_0 a0_1 _ _ l0_2 a1_0 a1_1 a1_2 _ _ l1_3 t244 _ ?side1 ?side2 ?side3 ?side4 A11.out).mono ?_); (case side1 => repeat (first | exact (Kd.C_below HR0_2.out HB.out) | (with_reducible first | apply cA_ | apply cN_ | apply cD_))); (case side2 => exact HC0_2.out); (case side3 => repeat (first | exact (Kd.C_below HR1_3.out HB.out) | (with_reducible first | apply cA_ | apply cN_ | apply cD_))); (case side4 => exact HC1_3.out); rintro e w21 ⟨rfl, hb⟩; replace BK239 := As_ (blk_below (g := gb239) (o := .cells #[.int .i64 a0_0, .bool a0_1, .slice A0_2 l0_2.length c0_2] 41 (0, 0)) (by (with_reducible repeat (first | apply kN_ | apply kD_ | apply kA_)); exact BK239.out) hb); replace BK240 := As_ (blk_below (g := gb240) (o := .cells #[.int .i64 a1_0, .int .i64 a1_1, .int .i64 a1_2, .slice A1_3 l1_3.length c1_3] 45 (0, 0)) (by (with_reducible repeat (first | apply kN_ | apply kD_ | apply kA_)); exact BK240.out) hb); replace BK241 := As_ (blk_below (g := gb241) (o := .cells #[.int .i64 0, .bool false, .slice none 0 0] 41 (0, 0)) (by (with_reducible repeat (first | apply kN_ | apply kD_ | apply kA_)); exact BK241.out) hb); replace HB := As_ (below_step (by repeat (first | (with_reducible first | exact HB.out | apply bA_ | apply bN_ | apply bD_ | refine bS_ ?_ GE239.out | refine bS_ ?_ GE240.out | refine bS_ ?_ GE241.out) | exact HB.out)) hb); (try clear hb); (try clear hb2); (try clear hk); (try clear hi)))
        go_meet
        case rel => exact ⟨_, (!t244), (by first | rfl | (simp; done) | (simp [*]; done)), H', ⟨by first | omega | exact Nat.le_refl _⟩, ⟨by (with_reducible repeat (first | apply kN_ | apply kD_ | apply kA_)); exact BK239.out⟩, ⟨by (with_reducible repeat (first | apply kN_ | apply kD_ | apply kA_)); exact BK240.out⟩, ⟨by (with_reducible repeat (first | apply kN_ | apply kD_ | apply kA_)); exact BK241.out⟩, ⟨by repeat (first | (with_reducible first | exact HB.out | apply bA_ | apply bN_ | apply bD_ | refine bS_ ?_ GE239.out | refine bS_ ?_ GE240.out | refine bS_ ?_ GE241.out) | exact HB.out)⟩⟩
      · rw [if_neg c10] at H
        have c10b0 : (t243 == 0) = false := beq_eq_false_iff_ne.mpr c10
        have c10b1 : (t243 != 0) = true := bne_iff_ne.mpr c10
        (first | rw [c10b0] | (simp only [i64_w, i32_w]; rw [c10b0]) | skip)
        have H' := Aside0.mk H
        clear H
        have hnb22 := NB239_240.out
        have hnc22 := NB240_239.out
        have hnb23 := NB239_241.out
        have hnc23 := NB241_239.out
        obtain ⟨hcz24_0, hcz24_1, hcz24_2, hfz24_0, hfz24_1, hfz24_2⟩ := blk_all3 BK239.out
        go_wp2_with (first | ((with_reducible refine gate_callee (f := 38) rfl ?_); refine goesL_ (some 11) rfl rfl Try.func38 (by kernel_rfl) rfl #[.agg #[.int .i64 a0_0, .bool a0_1, .slice A0_2 l0_2.length c0_2]] rfl (by (try simp only [List.map_toArray, List.map_cons, List.map_nil]); first | done | rfl | (simp only [List.length_drop, List.length_take]; rfl)) ?_; (with_reducible refine (impl_GatherOk.calls a0_0 a0_1 _ _ l0_2 true _ ?side1 ?side2 A7.out).mono ?_); (case side1 => repeat (first | exact (Kd.C_below HR0_2.out HB.out) | (with_reducible first | apply cA_ | apply cN_ | apply cD_))); (case side2 => exact HC0_2.out); rintro e w25 ⟨rfl, hb⟩; refine ⟨_, rfl, ?_⟩; replace BK239 := As_ (blk_below (g := gb239) (o := .cells #[.int .i64 a0_0, .bool a0_1, .slice A0_2 l0_2.length c0_2] 41 (0, 0)) (by (with_reducible repeat (first | apply kN_ | apply kD_ | apply kA_)); exact BK239.out) hb); replace BK240 := As_ (blk_below (g := gb240) (o := .cells #[.int .i64 a1_0, .int .i64 a1_1, .int .i64 a1_2, .slice A1_3 l1_3.length c1_3] 45 (0, 0)) (by (with_reducible repeat (first | apply kN_ | apply kD_ | apply kA_)); exact BK240.out) hb); replace BK241 := As_ (blk_below (g := gb241) (o := .cells #[.int .i64 0, .bool false, .slice none 0 0] 41 (0, 0)) (by (with_reducible repeat (first | apply kN_ | apply kD_ | apply kA_)); exact BK241.out) hb); replace HB := As_ (below_step (by repeat (first | (with_reducible first | exact HB.out | apply bA_ | apply bN_ | apply bD_ | refine bS_ ?_ GE239.out | refine bS_ ?_ GE240.out | refine bS_ ?_ GE241.out) | exact HB.out)) hb); (try clear hb); (try clear hb2); (try clear hk); (try clear hi); have hnb26 := NB240_241.out; have hnc26 := NB241_240.out; obtain ⟨hcz27_0, hcz27_1, hcz27_2, hcz27_3, hfz27_0, hfz27_1, hfz27_2, hfz27_3⟩ := blk_all4 BK240.out) | (go_at_call 59; (with_reducible refine (impl_FrameCode.calls k a1_0 a1_1 a1_2 _ _ l1_3 t243 _ ?side1 ?side2 A9.out).mono ?_); (case side1 => repeat (first | exact (Kd.C_below HR1_3.out HB.out) | (with_reducible first | apply cA_ | apply cN_ | apply cD_))); (case side2 => exact HC1_3.out); rintro e w28 ⟨rfl, hb⟩; replace BK239 := As_ (blk_below (g := gb239) (o := .cells #[.int .i64 a0_0, .bool a0_1, .slice A0_2 l0_2.length c0_2] 41 (0, 0)) (by (with_reducible repeat (first | apply kN_ | apply kD_ | apply kA_)); exact BK239.out) hb); replace BK240 := As_ (blk_below (g := gb240) (o := .cells #[.int .i64 a1_0, .int .i64 a1_1, .int .i64 a1_2, .slice A1_3 l1_3.length c1_3] 45 (0, 0)) (by (with_reducible repeat (first | apply kN_ | apply kD_ | apply kA_)); exact BK240.out) hb); replace BK241 := As_ (blk_below (g := gb241) (o := .cells #[.int .i64 0, .bool false, .slice none 0 0] 41 (0, 0)) (by (with_reducible repeat (first | apply kN_ | apply kD_ | apply kA_)); exact BK241.out) hb); replace HB := As_ (below_step (by repeat (first | (with_reducible first | exact HB.out | apply bA_ | apply bN_ | apply bD_ | refine bS_ ?_ GE239.out | refine bS_ ?_ GE240.out | refine bS_ ?_ GE241.out) | exact HB.out)) hb); (try clear hb); (try clear hb2); (try clear hk); (try clear hi)))
        go_meet
        case rel => exact ⟨_, (true), (by first | rfl | (simp; done) | (simp [*]; done)), H', ⟨by first | omega | exact Nat.le_refl _⟩, ⟨by (with_reducible repeat (first | apply kN_ | apply kD_ | apply kA_)); exact BK239.out⟩, ⟨by (with_reducible repeat (first | apply kN_ | apply kD_ | apply kA_)); exact BK240.out⟩, ⟨by (with_reducible repeat (first | apply kN_ | apply kD_ | apply kA_)); exact BK241.out⟩, ⟨by repeat (first | (with_reducible first | exact HB.out | apply bA_ | apply bN_ | apply bD_ | refine bS_ ?_ GE239.out | refine bS_ ?_ GE240.out | refine bS_ ?_ GE241.out) | exact HB.out)⟩⟩
    · replace c8 := Bool.eq_false_iff.mpr c8
      subst c8
      have H1 : (impl_Feed.j0 k true a0_0 a0_1 l0_2 a1_0 a1_1 a1_2 l1_3) = some (r1, r2, r3, r4, r5) := by rw [if_neg (show ¬ (false = true) by decide)] at H; exact H
      clear H
      have H := H1
      clear H1
      have H' := Aside0.mk H
      clear H
      have hnb29 := NB239_240.out
      have hnc29 := NB240_239.out
      have hnb30 := NB239_241.out
      have hnc30 := NB241_239.out
      obtain ⟨hcz31_0, hcz31_1, hcz31_2, hfz31_0, hfz31_1, hfz31_2⟩ := blk_all3 BK239.out
      go_wp2_with (first | ((with_reducible refine gate_callee (f := 38) rfl ?_); refine goesL_ (some 11) rfl rfl Try.func38 (by kernel_rfl) rfl #[.agg #[.int .i64 a0_0, .bool a0_1, .slice A0_2 l0_2.length c0_2]] rfl (by (try simp only [List.map_toArray, List.map_cons, List.map_nil]); first | done | rfl | (simp only [List.length_drop, List.length_take]; rfl)) ?_; (with_reducible refine (impl_GatherOk.calls a0_0 a0_1 _ _ l0_2 false _ ?side1 ?side2 A7.out).mono ?_); (case side1 => repeat (first | exact (Kd.C_below HR0_2.out HB.out) | (with_reducible first | apply cA_ | apply cN_ | apply cD_))); (case side2 => exact HC0_2.out); rintro e w32 ⟨rfl, hb⟩; refine ⟨_, rfl, ?_⟩; replace BK239 := As_ (blk_below (g := gb239) (o := .cells #[.int .i64 a0_0, .bool a0_1, .slice A0_2 l0_2.length c0_2] 41 (0, 0)) (by (with_reducible repeat (first | apply kN_ | apply kD_ | apply kA_)); exact BK239.out) hb); replace BK240 := As_ (blk_below (g := gb240) (o := .cells #[.int .i64 a1_0, .int .i64 a1_1, .int .i64 a1_2, .slice A1_3 l1_3.length c1_3] 45 (0, 0)) (by (with_reducible repeat (first | apply kN_ | apply kD_ | apply kA_)); exact BK240.out) hb); replace BK241 := As_ (blk_below (g := gb241) (o := .cells #[.int .i64 0, .bool false, .slice none 0 0] 41 (0, 0)) (by (with_reducible repeat (first | apply kN_ | apply kD_ | apply kA_)); exact BK241.out) hb); replace HB := As_ (below_step (by repeat (first | (with_reducible first | exact HB.out | apply bA_ | apply bN_ | apply bD_ | refine bS_ ?_ GE239.out | refine bS_ ?_ GE240.out | refine bS_ ?_ GE241.out) | exact HB.out)) hb); (try clear hb); (try clear hb2); (try clear hk); (try clear hi)))
      go_meet
      case rel => exact ⟨_, (true), (by first | rfl | (simp; done) | (simp [*]; done)), H', ⟨by first | omega | exact Nat.le_refl _⟩, ⟨by (with_reducible repeat (first | apply kN_ | apply kD_ | apply kA_)); exact BK239.out⟩, ⟨by (with_reducible repeat (first | apply kN_ | apply kD_ | apply kA_)); exact BK240.out⟩, ⟨by (with_reducible repeat (first | apply kN_ | apply kD_ | apply kA_)); exact BK241.out⟩, ⟨by repeat (first | (with_reducible first | exact HB.out | apply bA_ | apply bN_ | apply bD_ | refine bS_ ?_ GE239.out | refine bS_ ?_ GE240.out | refine bS_ ?_ GE241.out) | exact HB.out)⟩⟩
  case rest =>
    clear HC3
    try clear c1
    try clear c2
    try clear p2
    try clear c3
    try clear c8
    try clear c10
    try clear c10b0
    try clear c10b1
    try clear c12
    try clear c13
    try clear c16
    try clear c22
    try clear c23
    try clear c26
    try clear c28
    try clear c29
    try clear c30
    try clear hcz14_0
    try clear hcz14_1
    try clear hcz14_2
    try clear hcz17_0
    try clear hcz17_1
    try clear hcz17_2
    try clear hcz17_3
    try clear hcz19_0
    try clear hcz19_1
    try clear hcz19_2
    try clear hcz20_0
    try clear hcz20_1
    try clear hcz20_2
    try clear hcz20_3
    try clear hcz24_0
    try clear hcz24_1
    try clear hcz24_2
    try clear hcz27_0
    try clear hcz27_1
    try clear hcz27_2
    try clear hcz27_3
    try clear hcz31_0
    try clear hcz31_1
    try clear hcz31_2
    try clear hfz14_0
    try clear hfz14_1
    try clear hfz14_2
    try clear hfz17_0
    try clear hfz17_1
    try clear hfz17_2
    try clear hfz17_3
    try clear hfz19_0
    try clear hfz19_1
    try clear hfz19_2
    try clear hfz20_0
    try clear hfz20_1
    try clear hfz20_2
    try clear hfz20_3
    try clear hfz24_0
    try clear hfz24_1
    try clear hfz24_2
    try clear hfz27_0
    try clear hfz27_1
    try clear hfz27_2
    try clear hfz27_3
    try clear hfz31_0
    try clear hfz31_1
    try clear hfz31_2
    obtain ⟨kq, x23_2, rfl, HA, HJ2, BK239, BK240, BK241, HB⟩ := hcut
    cases kq with
    | zero => exact absurd HA.out (by simp [impl_Feed.j0])
    | succ kj2 =>
      have H := HA.out
      clear HA
      simp only [impl_Feed.j0] at H
      by_cases c33 : x23_2 = true
      · subst c33
        have H1 : ((impl_copyGather.f a0_0 a0_1 l0_2).bind fun bt245 => (some (bt245.1, bt245.2.1, bt245.2.2, ([] : List Int), 2))) = some (r1, r2, r3, r4, r5) := by rw [if_pos rfl] at H; exact H
        clear H
        have H := H1
        clear H1
        replace H := Option.bind_eq_some_iff.mp H
        obtain ⟨⟨t245, t246, t247⟩, A340, H⟩ := H
        replace H : (some (t245, t246, t247, ([] : List Int), 2)) = some (r1, r2, r3, r4, r5) := H
        have A34 := Aside0.mk A340
        clear A340
        simp only [Option.some.injEq, Prod.mk.injEq] at H
        obtain ⟨rfl, rfl, rfl, rfl, rfl⟩ := H
        have hnb35 := NB239_240.out
        have hnc35 := NB240_239.out
        have hnb36 := NB239_241.out
        have hnc36 := NB241_239.out
        obtain ⟨hcz37_0, hcz37_1, hcz37_2, hfz37_0, hfz37_1, hfz37_2⟩ := blk_all3 BK239.out
        go_wp2_with (first | ((with_reducible refine gate_callee (f := 61) rfl ?_); refine goesL_ (some 25) rfl rfl Try.func61 (by kernel_rfl) rfl #[.agg #[.int .i64 a0_0, .bool a0_1, .slice A0_2 l0_2.length c0_2]] rfl (by (try simp only [List.map_toArray, List.map_cons, List.map_nil]); first | done | rfl | (simp only [List.length_drop, List.length_take]; rfl)) ?_; (with_reducible refine (impl_copyGather.calls a0_0 a0_1 _ _ l0_2 t245 t246 t247 _ ?side1 ?side2 A34.out).mono ?_); (case side1 => repeat (first | exact (Kd.C_below HR0_2.out HB.out) | (with_reducible first | apply cA_ | apply cN_ | apply cD_))); (case side2 => exact HC0_2.out); rintro e w38 ⟨v248, rfl, ho0, hb⟩; refine ⟨_, rfl, ?_⟩; have HO249 := As_ (Kd.R_lower ho0 (below_size (by repeat (first | (with_reducible first | exact HB.out | apply bA_ | apply bN_ | apply bD_ | refine bS_ ?_ GE239.out | refine bS_ ?_ GE240.out | refine bS_ ?_ GE241.out) | exact HB.out)))); replace BK239 := As_ (blk_below (g := gb239) (o := .cells #[.int .i64 a0_0, .bool a0_1, .slice A0_2 l0_2.length c0_2] 41 (0, 0)) (by (with_reducible repeat (first | apply kN_ | apply kD_ | apply kA_)); exact BK239.out) hb); replace BK240 := As_ (blk_below (g := gb240) (o := .cells #[.int .i64 a1_0, .int .i64 a1_1, .int .i64 a1_2, .slice A1_3 l1_3.length c1_3] 45 (0, 0)) (by (with_reducible repeat (first | apply kN_ | apply kD_ | apply kA_)); exact BK240.out) hb); replace BK241 := As_ (blk_below (g := gb241) (o := .cells #[.int .i64 0, .bool false, .slice none 0 0] 41 (0, 0)) (by (with_reducible repeat (first | apply kN_ | apply kD_ | apply kA_)); exact BK241.out) hb); replace HB := As_ (below_step (by repeat (first | (with_reducible first | exact HB.out | apply bA_ | apply bN_ | apply bD_ | refine bS_ ?_ GE239.out | refine bS_ ?_ GE240.out | refine bS_ ?_ GE241.out) | exact HB.out)) hb); (try clear hb); (try clear hb2); (try clear hk); (try clear hi); (try clear ho0); have hnb39 := NB241_240.out; have hnc39 := NB240_241.out; obtain ⟨hcz40_0, hcz40_1, hcz40_2, hfz40_0, hfz40_1, hfz40_2⟩ := blk_all3 BK241.out; obtain ⟨Ao41, co41, eo41⟩ := Kd.R_slice HO249.out; subst eo41))
        refine bodyPost_ret (results_ctt rfl _ _ gb241 41 #[.int .i64 t245, .bool t246, .slice Ao41 t247.length co41] (0, 0) _ rfl (by (with_reducible repeat (first | apply kN_ | apply kD_ | apply kA_)); refine blk_put (cs := #[.int .i64 t245, .bool t246, .slice none 0 0]) ?_ 2 _ rfl; (with_reducible repeat (first | apply kN_ | apply kD_ | apply kA_)); refine blk_put (cs := #[.int .i64 t245, .bool false, .slice none 0 0]) ?_ 1 _ rfl; (with_reducible repeat (first | apply kN_ | apply kD_ | apply kA_)); refine blk_put (cs := #[.int .i64 0, .bool false, .slice none 0 0]) ?_ 0 _ rfl; (with_reducible repeat (first | apply kN_ | apply kD_ | apply kA_)); exact BK241.out) Try.underlying41 rfl (by kernel_rfl)) rfl ?_
        exact ⟨_, _, by first | rfl | (simp [errW_none, errW_some] <;> rfl) | (simp [*, errW_none, errW_some] <;> rfl), by (with_reducible repeat (first | apply rA_ | apply rN_ | apply rD_)); exact Kd.R_mono (Kd.R_far (p := ⟨gb241, 2, none⟩) (Kd.R_far (p := ⟨gb241, 1, none⟩) (Kd.R_far (p := ⟨gb241, 0, none⟩) (Kd.R_types HO249.out BK241.out (by decide)) (fun _ hk => hk.2) (.int .i64 t245)) (fun _ hk => hk.2) (.bool t246)) (fun _ hk => hk.2) (.slice Ao41 t247.length co41)) (fun _ hk => (by simp [Value.ownBlock])), by first | exact Kd.R_nil _ _ _ _ _ | exact Kd.N_nil _ _ _ _ _ | exact Kd.V_nil _ _ _ _ _ | exact Kd.Q_nil _ _ _ _ _ | exact Kd.S_nil _ _ _ _ _, by repeat (first | (with_reducible first | exact HB.out | apply bA_ | apply bN_ | apply bD_ | refine bS_ ?_ GE239.out | refine bS_ ?_ GE240.out | refine bS_ ?_ GE241.out) | exact HB.out)⟩
      · replace c33 := Bool.eq_false_iff.mpr c33
        subst c33
        have H1 : ((impl_copyGather.f a0_0 a0_1 l0_2).bind fun bt250 => (if a1_0 = 1 then ((impl_Unpad.f kj2 a1_0 a1_1 a1_2 l1_3).bind fun bt256 => (if bt256.2 = true then ((impl_Frame_has.f a1_0 a1_1 a1_2 l1_3 1).bind fun t260 => (impl_Feed.j1 kj2 a0_0 a0_1 l0_2 a1_0 a1_1 a1_2 l1_3 a1_2 t260 bt256.1)) else ((impl_copyGather.f a0_0 a0_1 l0_2).bind fun bt261 => (some (bt261.1, bt261.2.1, bt261.2.2, ([] : List Int), 3))))) else (if a1_0 = 9 then (if bt250.2.2.length + l1_3.length < 140737488355328 then (impl_Feed.j1 kj2 a0_0 a0_1 l0_2 a1_0 a1_1 a1_2 l1_3 bt250.1 bt250.2.1 (bt250.2.2 ++ l1_3)) else (none)) else (some (bt250.1, bt250.2.1, bt250.2.2, ([] : List Int), 0))))) = some (r1, r2, r3, r4, r5) := by rw [if_neg (show ¬ (false = true) by decide)] at H; exact H
        clear H
        have H := H1
        clear H1
        replace H := Option.bind_eq_some_iff.mp H
        obtain ⟨⟨t250, t251, t252⟩, A420, H⟩ := H
        replace H : (if a1_0 = 1 then ((impl_Unpad.f kj2 a1_0 a1_1 a1_2 l1_3).bind fun bt256 => (if bt256.2 = true then ((impl_Frame_has.f a1_0 a1_1 a1_2 l1_3 1).bind fun t260 => (impl_Feed.j1 kj2 a0_0 a0_1 l0_2 a1_0 a1_1 a1_2 l1_3 a1_2 t260 bt256.1)) else ((impl_copyGather.f a0_0 a0_1 l0_2).bind fun bt261 => (some (bt261.1, bt261.2.1, bt261.2.2, ([] : List Int), 3))))) else (if a1_0 = 9 then (if t252.length + l1_3.length < 140737488355328 then (impl_Feed.j1 kj2 a0_0 a0_1 l0_2 a1_0 a1_1 a1_2 l1_3 t250 t251 (t252 ++ l1_3)) else (none)) else (some (t250, t251, t252, ([] : List Int), 0)))) = some (r1, r2, r3, r4, r5) := H
        have A42 := Aside0.mk A420
        clear A420
        have HC43 := Aside0.mk H
        clear H
        have hnb44 := NB239_240.out
        have hnc44 := NB240_239.out
        have hnb45 := NB239_241.out
        have hnc45 := NB241_239.out
        obtain ⟨hcz46_0, hcz46_1, hcz46_2, hfz46_0, hfz46_1, hfz46_2⟩ := blk_all3 BK239.out
        go_upto_block 0 with (first | ((with_reducible refine gate_callee (f := 61) rfl ?_); refine goesL_ (some 27) rfl rfl Try.func61 (by kernel_rfl) rfl #[.agg #[.int .i64 a0_0, .bool a0_1, .slice A0_2 l0_2.length c0_2]] rfl (by (try simp only [List.map_toArray, List.map_cons, List.map_nil]); first | done | rfl | (simp only [List.length_drop, List.length_take]; rfl)) ?_; (with_reducible refine (impl_copyGather.calls a0_0 a0_1 _ _ l0_2 t250 t251 t252 _ ?side1 ?side2 A42.out).mono ?_); (case side1 => repeat (first | exact (Kd.C_below HR0_2.out HB.out) | (with_reducible first | apply cA_ | apply cN_ | apply cD_))); (case side2 => exact HC0_2.out); rintro e w47 ⟨v253, rfl, ho0, hb⟩; refine ⟨_, rfl, ?_⟩; have HO254 := As_ (Kd.R_lower ho0 (below_size (by repeat (first | (with_reducible first | exact HB.out | apply bA_ | apply bN_ | apply bD_ | refine bS_ ?_ GE239.out | refine bS_ ?_ GE240.out | refine bS_ ?_ GE241.out) | exact HB.out)))); replace BK239 := As_ (blk_below (g := gb239) (o := .cells #[.int .i64 a0_0, .bool a0_1, .slice A0_2 l0_2.length c0_2] 41 (0, 0)) (by (with_reducible repeat (first | apply kN_ | apply kD_ | apply kA_)); exact BK239.out) hb); replace BK240 := As_ (blk_below (g := gb240) (o := .cells #[.int .i64 a1_0, .int .i64 a1_1, .int .i64 a1_2, .slice A1_3 l1_3.length c1_3] 45 (0, 0)) (by (with_reducible repeat (first | apply kN_ | apply kD_ | apply kA_)); exact BK240.out) hb); replace BK241 := As_ (blk_below (g := gb241) (o := .cells #[.int .i64 0, .bool false, .slice none 0 0] 41 (0, 0)) (by (with_reducible repeat (first | apply kN_ | apply kD_ | apply kA_)); exact BK241.out) hb); replace HB := As_ (below_step (by repeat (first | (with_reducible first | exact HB.out | apply bA_ | apply bN_ | apply bD_ | refine bS_ ?_ GE239.out | refine bS_ ?_ GE240.out | refine bS_ ?_ GE241.out) | exact HB.out)) hb); (try clear hb); (try clear hb2); (try clear hk); (try clear hi); (try clear ho0)) | ((with_reducible refine gate_dst (N := 7) rfl ?_); refine box_event ?hg (N := 7) ?hd (cs := #[.int .i64 0, .bool false, .slice none 0 0]) (t := 41) ?hr ?_; (case hd => rfl); (case hg => rfl); (case hr => first | (go_simp; done) | (go_simp; rfl)); intro gb255 hg w48 hbox hb; have n0_ := As_ (Kd.R_below (by (with_reducible repeat (first | apply rA_ | apply rN_ | apply rD_)); exact HO254.out) hb); have n1_ := As_ (blk_below (g := gb239) (o := .cells #[.int .i64 a0_0, .bool a0_1, .slice A0_2 l0_2.length c0_2] 41 (0, 0)) (by (with_reducible repeat (first | apply kN_ | apply kD_ | apply kA_)); exact BK239.out) hb); have n2_ := As_ (blk_below (g := gb240) (o := .cells #[.int .i64 a1_0, .int .i64 a1_1, .int .i64 a1_2, .slice A1_3 l1_3.length c1_3] 45 (0, 0)) (by (with_reducible repeat (first | apply kN_ | apply kD_ | apply kA_)); exact BK240.out) hb); have n3_ := As_ (blk_below (g := gb241) (o := .cells #[.int .i64 0, .bool false, .slice none 0 0] 41 (0, 0)) (by (with_reducible repeat (first | apply kN_ | apply kD_ | apply kA_)); exact BK241.out) hb); have n4_ := As_ (below_step (by repeat (first | (with_reducible first | exact HB.out | apply bA_ | apply bN_ | apply bD_ | refine bS_ ?_ GE239.out | refine bS_ ?_ GE240.out | refine bS_ ?_ GE241.out) | exact HB.out)) hb); have n5_ := As_ (hbox); have n6_ := As_ ((by rw [hg]; exact (below_size (by repeat (first | (with_reducible first | exact HB.out | apply bA_ | apply bN_ | apply bD_ | refine bS_ ?_ GE239.out | refine bS_ ?_ GE240.out | refine bS_ ?_ GE241.out) | exact HB.out))) : w.heap.size ≤ gb255)); have n7_ := As_ ((by rw [hg]; exact (below_size (by repeat (first | (with_reducible first | exact HB.out | apply bA_ | apply bN_ | apply bD_ | refine bS_ ?_ GE239.out | refine bS_ ?_ GE240.out | refine bS_ ?_ GE241.out) | exact HB.out))) : w.heap.size ≤ gb255)); have n8_ := As_ ((by rw [hg]; exact Nat.ne_of_lt (blk_lt (g := gb239) (o := .cells #[.int .i64 a0_0, .bool a0_1, .slice A0_2 l0_2.length c0_2] 41 (0, 0)) (by (with_reducible repeat (first | apply kN_ | apply kD_ | apply kA_)); exact BK239.out)) : gb239 ≠ gb255)); have n9_ := As_ ((by rw [hg]; exact Nat.ne_of_gt (blk_lt (g := gb239) (o := .cells #[.int .i64 a0_0, .bool a0_1, .slice A0_2 l0_2.length c0_2] 41 (0, 0)) (by (with_reducible repeat (first | apply kN_ | apply kD_ | apply kA_)); exact BK239.out)) : gb255 ≠ gb239)); have n10_ := As_ ((by rw [hg]; exact Nat.ne_of_lt (blk_lt (g := gb240) (o := .cells #[.int .i64 a1_0, .int .i64 a1_1, .int .i64 a1_2, .slice A1_3 l1_3.length c1_3] 45 (0, 0)) (by (with_reducible repeat (first | apply kN_ | apply kD_ | apply kA_)); exact BK240.out)) : gb240 ≠ gb255)); have n11_ := As_ ((by rw [hg]; exact Nat.ne_of_gt (blk_lt (g := gb240) (o := .cells #[.int .i64 a1_0, .int .i64 a1_1, .int .i64 a1_2, .slice A1_3 l1_3.length c1_3] 45 (0, 0)) (by (with_reducible repeat (first | apply kN_ | apply kD_ | apply kA_)); exact BK240.out)) : gb255 ≠ gb240)); have n12_ := As_ ((by rw [hg]; exact Nat.ne_of_lt (blk_lt (g := gb241) (o := .cells #[.int .i64 0, .bool false, .slice none 0 0] 41 (0, 0)) (by (with_reducible repeat (first | apply kN_ | apply kD_ | apply kA_)); exact BK241.out)) : gb241 ≠ gb255)); have n13_ := As_ ((by rw [hg]; exact Nat.ne_of_gt (blk_lt (g := gb241) (o := .cells #[.int .i64 0, .bool false, .slice none 0 0] 41 (0, 0)) (by (with_reducible repeat (first | apply kN_ | apply kD_ | apply kA_)); exact BK241.out)) : gb255 ≠ gb241)); clear HO254 BK239 BK240 BK241 HB; have HO254 := n0_; have BK239 := n1_; have BK240 := n2_; have BK241 := n3_; have HB := n4_; have BK255 := n5_; have GW255 := n6_; have GE255 := n7_; have NB239_255 := n8_; have NB255_239 := n9_; have NB240_255 := n10_; have NB255_240 := n11_; have NB241_255 := n12_; have NB255_241 := n13_; clear n0_ n1_ n2_ n3_ n4_ n5_ n6_ n7_ n8_ n9_ n10_ n11_ n12_ n13_ hb hbox hg; have hnb49 := NB255_239.out; have hnc49 := NB239_255.out; have hnb50 := NB255_240.out; have hnc50 := NB240_255.out; have hnb51 := NB255_241.out; have hnc51 := NB241_255.out; obtain ⟨hcz52_0, hcz52_1, hcz52_2, hfz52_0, hfz52_1, hfz52_2⟩ := blk_all3 BK255.out; obtain ⟨Ao53, co53, eo53⟩ := Kd.R_slice HO254.out; subst eo53; have hnb54 := NB240_241.out; have hnc54 := NB241_240.out; obtain ⟨hcz55_0, hcz55_1, hcz55_2, hcz55_3, hfz55_0, hfz55_1, hfz55_2, hfz55_3⟩ := blk_all4 BK240.out))
        (try simp only [Act.put, List.setIfInBounds_toArray, List.set_cons_zero, List.set_cons_succ])
        go_cut [] (fun wc => ∃ (kq : Nat) (x242000_42 : Int) (x242001_42 : Bool) (x256000_42 : Int) (x256001_42 : Bool) (x256002_42 : List Int) (u256002 : Value), Aside0 (impl_Feed.j1 kq a0_0 a0_1 l0_2 a1_0 a1_1 a1_2 l1_3 x256000_42 x256001_42 x256002_42 = some (r1, r2, r3, r4, r5)) ∧ Aside0 (kq ≤ kj2) ∧ Aside0 (Kd.R (Kd.int .u8) 5 wc w.heap.size (fun _ => True) u256002 x256002_42) ∧ Aside0 (wc.heap[gb239]? = some (.cells #[.int .i64 a0_0, .bool a0_1, (.slice A0_2 l0_2.length c0_2)] 41 (0, 0))) ∧ Aside0 (wc.heap[gb240]? = some (.cells #[.int .i64 a1_0, .int .i64 a1_1, .int .i64 a1_2, (.slice A1_3 l1_3.length c1_3)] 45 (0, 0))) ∧ Aside0 (wc.heap[gb241]? = some (.cells #[.int .i64 x242000_42, .bool x242001_42, (.slice none 0 0)] 41 (0, 0))) ∧ Aside0 (wc.heap[gb255]? = some (.cells #[.int .i64 x256000_42, .bool x256001_42, u256002] 41 (0, 0))) ∧ Aside0 (Below w.heap.size w wc))
        case first =>
          have H := HC43.out
          clear HC43
          by_cases c56 : a1_0 = 1
          · rw [if_pos c56] at H
            have c56b0 : (a1_0 == 1) = true := beq_iff_eq.mpr c56
            have c56b1 : (a1_0 != 1) = false := bne_eq_false_iff_eq.mpr c56
            clear c56
            (first | rw [c56b0] | (simp only [i64_w, i32_w]; rw [c56b0]) | skip)
            replace H := Option.bind_eq_some_iff.mp H
            obtain ⟨⟨t256, t259⟩, A570, H⟩ := H
            replace H : (if t259 = true then ((impl_Frame_has.f a1_0 a1_1 a1_2 l1_3 1).bind fun t260 => (impl_Feed.j1 kj2 a0_0 a0_1 l0_2 a1_0 a1_1 a1_2 l1_3 a1_2 t260 t256)) else ((impl_copyGather.f a0_0 a0_1 l0_2).bind fun bt261 => (some (bt261.1, bt261.2.1, bt261.2.2, ([] : List Int), 3)))) = some (r1, r2, r3, r4, r5) := H
            have A57 := Aside0.mk A570
            clear A570
            by_cases c58 : t259 = true
            · subst c58
              have H1 : ((impl_Frame_has.f a1_0 a1_1 a1_2 l1_3 1).bind fun t260 => (impl_Feed.j1 kj2 a0_0 a0_1 l0_2 a1_0 a1_1 a1_2 l1_3 a1_2 t260 t256)) = some (r1, r2, r3, r4, r5) := by rw [if_pos rfl] at H; exact H
              clear H
              have H := H1
              clear H1
              replace H := Option.bind_eq_some_iff.mp H
              obtain ⟨t260, A590, H⟩ := H
              replace H : (impl_Feed.j1 kj2 a0_0 a0_1 l0_2 a1_0 a1_1 a1_2 l1_3 a1_2 t260 t256) = some (r1, r2, r3, r4, r5) := H
              have A59 := Aside0.mk A590
              clear A590
              have H' := Aside0.mk H
              clear H
              have hnb60 := NB240_239.out
              have hnc60 := NB239_240.out
              have hnb61 := NB240_241.out
              have hnc61 := NB241_240.out
              have hnb62 := NB240_255.out
              have hnc62 := NB255_240.out
              obtain ⟨hcz63_0, hcz63_1, hcz63_2, hcz63_3, hfz63_0, hfz63_1, hfz63_2, hfz63_3⟩ := blk_all4 BK240.out
              try go_wp2_with (first | ((with_reducible refine gate_callee (f := 62) rfl ?_); refine goesL_ (some 35) rfl rfl Try.func62 (by kernel_rfl) rfl #[.agg #[.int .i64 a1_0, .int .i64 a1_1, .int .i64 a1_2, .slice A1_3 l1_3.length c1_3]] rfl (by (try simp only [List.map_toArray, List.map_cons, List.map_nil]); first | done | rfl | (simp only [List.length_drop, List.length_take]; rfl)) ?_; (with_reducible refine (impl_Unpad.calls kj2 a1_0 a1_1 a1_2 (fun k_ => k_ < w.heap.size) _ _ l1_3 t256 true _ ?side1 A57.out).mono ?_); (case side1 => exact Kd.V_mk HC1_3.out (Kd.F_below (Kd.C_F (Kd.heap_int .u8) HR1_3.out) (by repeat (first | (with_reducible first | exact HB.out | apply bA_ | apply bN_ | apply bD_ | refine bS_ ?_ GE239.out | refine bS_ ?_ GE240.out | refine bS_ ?_ GE241.out | refine bS_ ?_ GE255.out) | exact HB.out)))); rintro e w64 ⟨v257, rfl, ho0, hb⟩; refine ⟨_, rfl, ?_⟩; have n0_ := As_ (Kd.R_elder' (by (with_reducible repeat (first | apply rA_ | apply rN_ | apply rD_)); exact (Kd.R_mono (Kd.R_far (p := ⟨gb255, 2, none⟩) (Kd.R_far (p := ⟨gb255, 1, none⟩) (Kd.R_far (p := ⟨gb255, 0, none⟩) (Kd.R_types HO254.out BK255.out (by decide)) (fun _ hk => hk.2) (.int .i64 t250)) (fun _ hk => hk.2) (.bool t251)) (fun _ hk => hk.2) (.slice Ao53 t252.length co53)) (fun _ h_ => h_.1))) (Kd.R_base ho0) hb); have HO258 := As_ (Kd.R_lower (Kd.R_new' (Kd.R_mono (ok' := fun k_ => True) ho0 (fun _ hk_ => trivial)) (Kd.R_lt (by (with_reducible repeat (first | apply rA_ | apply rN_ | apply rD_)); exact (Kd.R_mono (Kd.R_far (p := ⟨gb255, 2, none⟩) (Kd.R_far (p := ⟨gb255, 1, none⟩) (Kd.R_far (p := ⟨gb255, 0, none⟩) (Kd.R_types HO254.out BK255.out (by decide)) (fun _ hk => hk.2) (.int .i64 t250)) (fun _ hk => hk.2) (.bool t251)) (fun _ hk => hk.2) (.slice Ao53 t252.length co53)) (fun _ h_ => h_.1))))) (below_size (by repeat (first | (with_reducible first | exact HB.out | apply bA_ | apply bN_ | apply bD_ | refine bS_ ?_ GE239.out | refine bS_ ?_ GE240.out | refine bS_ ?_ GE241.out | refine bS_ ?_ GE255.out) | exact HB.out)))); replace BK239 := As_ (blk_below (g := gb239) (o := .cells #[.int .i64 a0_0, .bool a0_1, .slice A0_2 l0_2.length c0_2] 41 (0, 0)) (by (with_reducible repeat (first | apply kN_ | apply kD_ | apply kA_)); refine blk_far ?_ NB239_255.out _; (with_reducible repeat (first | apply kN_ | apply kD_ | apply kA_)); refine blk_far ?_ NB239_255.out _; (with_reducible repeat (first | apply kN_ | apply kD_ | apply kA_)); refine blk_far ?_ NB239_255.out _; (with_reducible repeat (first | apply kN_ | apply kD_ | apply kA_)); exact BK239.out) hb); replace BK240 := As_ (blk_below (g := gb240) (o := .cells #[.int .i64 a1_0, .int .i64 a1_1, .int .i64 a1_2, .slice A1_3 l1_3.length c1_3] 45 (0, 0)) (by (with_reducible repeat (first | apply kN_ | apply kD_ | apply kA_)); refine blk_far ?_ NB240_255.out _; (with_reducible repeat (first | apply kN_ | apply kD_ | apply kA_)); refine blk_far ?_ NB240_255.out _; (with_reducible repeat (first | apply kN_ | apply kD_ | apply kA_)); refine blk_far ?_ NB240_255.out _; (with_reducible repeat (first | apply kN_ | apply kD_ | apply kA_)); exact BK240.out) hb); replace BK241 := As_ (blk_below (g := gb241) (o := .cells #[.int .i64 0, .bool false, .slice none 0 0] 41 (0, 0)) (by (with_reducible repeat (first | apply kN_ | apply kD_ | apply kA_)); refine blk_far ?_ NB241_255.out _; (with_reducible repeat (first | apply kN_ | apply kD_ | apply kA_)); refine blk_far ?_ NB241_255.out _; (with_reducible repeat (first | apply kN_ | apply kD_ | apply kA_)); refine blk_far ?_ NB241_255.out _; (with_reducible repeat (first | apply kN_ | apply kD_ | apply kA_)); exact BK241.out) hb); replace BK255 := As_ (blk_below (g := gb255) (o := .cells #[.int .i64 t250, .bool t251, .slice Ao53 t252.length co53] 41 (0, 0)) (by (with_reducible repeat (first | apply kN_ | apply kD_ | apply kA_)); refine blk_put (cs := #[.int .i64 t250, .bool t251, .slice none 0 0]) ?_ 2 _ rfl; (with_reducible repeat (first | apply kN_ | apply kD_ | apply kA_)); refine blk_put (cs := #[.int .i64 t250, .bool false, .slice none 0 0]) ?_ 1 _ rfl; (with_reducible repeat (first | apply kN_ | apply kD_ | apply kA_)); refine blk_put (cs := #[.int .i64 0, .bool false, .slice none 0 0]) ?_ 0 _ rfl; (with_reducible repeat (first | apply kN_ | apply kD_ | apply kA_)); exact BK255.out) hb); replace HB := As_ (below_step (by repeat (first | (with_reducible first | exact HB.out | apply bA_ | apply bN_ | apply bD_ | refine bS_ ?_ GE239.out | refine bS_ ?_ GE240.out | refine bS_ ?_ GE241.out | refine bS_ ?_ GE255.out) | exact HB.out)) hb); clear HO254; have HO254 := n0_; clear n0_; (try clear hb); (try clear hb2); (try clear hk); (try clear hi); (try clear ho0)))
              replace HO254 := As_ (Kd.R_drew HO254.out)
              replace HO258 := As_ (Kd.R_drew HO258.out)
              replace BK239 := As_ (blk_drew BK239.out)
              replace BK240 := As_ (blk_drew BK240.out)
              replace BK241 := As_ (blk_drew BK241.out)
              replace BK255 := As_ (blk_drew BK255.out)
              replace HB := As_ (below_drew1 HB.out)
              refine start_ (n := 7) (S := fun w' => w'.cell? ⟨gb240, 0, none⟩ = some (.int .i64 a1_0) ∧ w'.cell? ⟨gb240, 1, none⟩ = some (.int .i64 a1_1) ∧ w'.cell? ⟨gb240, 2, none⟩ = some (.int .i64 a1_2) ∧ w'.cell? ⟨gb240, 3, none⟩ = some (.slice A1_3 l1_3.length c1_3)) (ds := []) #[false, false, false, false, false, false, false] (by kernel_rfl) rfl rfl ⟨(blk_cell BK240.out 0).trans rfl, (blk_cell BK240.out 1).trans rfl, (blk_cell BK240.out 2).trans rfl, (blk_cell BK240.out 3).trans rfl⟩ (fun hHeld => ?_)
              generalize w64.drew = w65 at HO254 HO258 BK239 BK240 BK241 BK255 HB hHeld ⊢
              refine pure_ (i := 0) (N := some 42) (v := ?_) (a' := ?_) #[true, false, false, false, false, false, false] rfl rfl (by kernel_rfl) (fun _ _ _ h => h) (Or.inl ⟨by rfl, ?_⟩) ?_ ?_
              rotate_left
              · intro w'
                go_simp
                with_reducible rfl
              rotate_left
              · simp only [Act.put, List.setIfInBounds_toArray, List.set_cons_zero, List.set_cons_succ, i64_w, i32_w]
                rfl
              refine pure_ (i := 4) (N := some 46) (v := ?_) (a' := ?_) #[true, false, false, false, true, false, false] rfl rfl (by kernel_rfl) (fun _ _ _ h => h) (Or.inl ⟨by rfl, ?_⟩) ?_ ?_
              rotate_left
              · intro w'
                go_simp
                with_reducible rfl
              rotate_left
              · simp only [Act.put, List.setIfInBounds_toArray, List.set_cons_zero, List.set_cons_succ, i64_w, i32_w]
                rfl
              refine take_ (i := 1) (N := some 43) (v := ?_) (a' := ?_) #[true, true, false, false, true, false, false] rfl rfl (by kernel_rfl) (fun _ _ _ h => h) (Or.inl ⟨by rfl, ?_⟩) hHeld ?_ ?_
              rotate_left
              · rintro w' ⟨s0, s1, s2, s3⟩
                go_simp
                with_reducible rfl
              rotate_left
              · simp only [Act.put, List.setIfInBounds_toArray, List.set_cons_zero, List.set_cons_succ, i64_w, i32_w]
                rfl
              refine take_ (i := 2) (N := some 44) (v := ?_) (a' := ?_) #[true, true, true, false, true, false, false] rfl rfl (by kernel_rfl) (fun _ _ _ h => h) (Or.inl ⟨by rfl, ?_⟩) hHeld ?_ ?_
              rotate_left
              · rintro w' ⟨s0, s1, s2, s3⟩
                go_simp
                with_reducible rfl
              rotate_left
              · simp only [Act.put, List.setIfInBounds_toArray, List.set_cons_zero, List.set_cons_succ, i64_w, i32_w]
                rfl
              refine one_ (i := 3) (N := some 45) #[true, true, true, true, true, false, false] rfl rfl (by kernel_rfl) (by decide) (fun K hK => ?_)
              refine goes_ Try.func63 (by kernel_rfl) rfl #[.agg #[.int .i64 a1_0, .int .i64 a1_1, .int .i64 a1_2, .slice A1_3 l1_3.length c1_3], .int .i64 1] (by rfl) rfl rfl (by (try simp only [List.map_toArray, List.map_cons, List.map_nil]); first | done | rfl | (simp only [List.length_drop, List.length_take]; rfl)) ?_
              with_reducible refine (impl_Frame_has.calls a1_0 a1_1 a1_2 _ _ l1_3 1 t260 _ ?side1 ?side2 A59.out).mono ?_
              (case side1 => repeat (first | exact (Kd.C_below HR1_3.out HB.out) | (with_reducible first | apply cA_ | apply cN_ | apply cD_)))
              (case side2 => exact HC1_3.out)
              rintro e w66 ⟨rfl, hb⟩
              refine ⟨_, rfl, ?_⟩
              replace HO254 := As_ (Kd.R_below (by (with_reducible repeat (first | apply rA_ | apply rN_ | apply rD_)); exact HO254.out) hb)
              replace HO258 := As_ (Kd.R_below (by (with_reducible repeat (first | apply rA_ | apply rN_ | apply rD_)); exact HO258.out) hb)
              replace BK239 := As_ (blk_below (g := gb239) (o := .cells #[.int .i64 a0_0, .bool a0_1, .slice A0_2 l0_2.length c0_2] 41 (0, 0)) (by (with_reducible repeat (first | apply kN_ | apply kD_ | apply kA_)); exact BK239.out) hb)
              replace BK240 := As_ (blk_below (g := gb240) (o := .cells #[.int .i64 a1_0, .int .i64 a1_1, .int .i64 a1_2, .slice A1_3 l1_3.length c1_3] 45 (0, 0)) (by (with_reducible repeat (first | apply kN_ | apply kD_ | apply kA_)); exact BK240.out) hb)
              replace BK241 := As_ (blk_below (g := gb241) (o := .cells #[.int .i64 0, .bool false, .slice none 0 0] 41 (0, 0)) (by (with_reducible repeat (first | apply kN_ | apply kD_ | apply kA_)); exact BK241.out) hb)
              replace BK255 := As_ (blk_below (g := gb255) (o := .cells #[.int .i64 t250, .bool t251, .slice Ao53 t252.length co53] 41 (0, 0)) (by (with_reducible repeat (first | apply kN_ | apply kD_ | apply kA_)); exact BK255.out) hb)
              replace HB := As_ (below_step (by repeat (first | (with_reducible first | exact HB.out | apply bA_ | apply bN_ | apply bD_ | refine bS_ ?_ GE239.out | refine bS_ ?_ GE240.out | refine bS_ ?_ GE241.out | refine bS_ ?_ GE255.out) | exact HB.out)) hb)
              (try clear hb)
              (try clear hb2)
              (try clear hk)
              (try clear hi)
              obtain ⟨Ao67, co67, eo67⟩ := Kd.R_slice HO258.out
              (first | subst eo67 | (injection eo67 with f1_ f2_ f3_; have f4_ := f1_.symm; have f5_ := f3_.symm; clear f1_ f2_ f3_; subst f4_; subst f5_))
              refine hK.out _ _ ⟨(blk_cell BK240.out 0).trans rfl, (blk_cell BK240.out 1).trans rfl, (blk_cell BK240.out 2).trans rfl, (blk_cell BK240.out 3).trans rfl⟩ (fun hHeld => ?_)
              clear hK K
              refine norm_ (a' := ?_) ?_ ?_
              rotate_left
              · show Act.put _ (some 45) _ = _
                simp only [Act.put, List.setIfInBounds_toArray, List.set_cons_zero, List.set_cons_succ, i64_w, i32_w]
                rfl
              refine pure_ (i := 5) (N := some 47) (v := ?_) (a' := ?_) #[true, true, true, true, true, true, false] rfl rfl (by kernel_rfl) (fun _ _ _ h => h) (Or.inl ⟨by rfl, ?_⟩) ?_ ?_
              rotate_left
              · intro w'
                go_simp
                with_reducible rfl
              rotate_left
              · simp only [Act.put, List.setIfInBounds_toArray, List.set_cons_zero, List.set_cons_succ, i64_w, i32_w]
                rfl
              refine one_ (i := 6) (N := none) #[true, true, true, true, true, true, true] rfl rfl (by kernel_rfl) (by decide) (fun K hK => ?_)
              have hs68 : w66.cell? ⟨gb255, 0, none⟩ = some (.int .i64 t250) := (blk_cell BK255.out 0).trans rfl
              have hfs68 := blk_frozen BK255.out 0
              have hns68_0 := NB239_255.out
              have hns68_1 := NB240_255.out
              have hns68_2 := NB241_255.out
              have hms68_0 := NB255_239.out
              have hms68_1 := NB255_240.out
              have hms68_2 := NB255_241.out
              have hs69 : w66.cell? ⟨gb255, 1, none⟩ = some (.bool t251) := (blk_cell BK255.out 1).trans rfl
              have hfs69 := blk_frozen BK255.out 1
              have hns69_0 := NB239_255.out
              have hns69_1 := NB240_255.out
              have hns69_2 := NB241_255.out
              have hms69_0 := NB255_239.out
              have hms69_1 := NB255_240.out
              have hms69_2 := NB255_241.out
              have hs70 : w66.cell? ⟨gb255, 2, none⟩ = some (.slice Ao53 t252.length co53) := (blk_cell BK255.out 2).trans rfl
              have hfs70 := blk_frozen BK255.out 2
              have hns70_0 := NB239_255.out
              have hns70_1 := NB240_255.out
              have hns70_2 := NB241_255.out
              have hms70_0 := NB255_239.out
              have hms70_1 := NB255_240.out
              have hms70_2 := NB255_241.out
              refine skip_ (w1 := ?_) (by rfl) rfl ?_ ?_
              rotate_left
              · go_simp
                rfl
              refine hK.out _ _ ⟨((cell_far (p := ⟨gb255, _, none⟩) NB240_255.out _).trans (((cell_far (p := ⟨gb255, _, none⟩) NB240_255.out _).trans (((cell_far (p := ⟨gb255, _, none⟩) NB240_255.out _).trans (hHeld.1)))))), ((cell_far (p := ⟨gb255, _, none⟩) NB240_255.out _).trans (((cell_far (p := ⟨gb255, _, none⟩) NB240_255.out _).trans (((cell_far (p := ⟨gb255, _, none⟩) NB240_255.out _).trans (hHeld.2.1)))))), ((cell_far (p := ⟨gb255, _, none⟩) NB240_255.out _).trans (((cell_far (p := ⟨gb255, _, none⟩) NB240_255.out _).trans (((cell_far (p := ⟨gb255, _, none⟩) NB240_255.out _).trans (hHeld.2.2.1)))))), ((cell_far (p := ⟨gb255, _, none⟩) NB240_255.out _).trans (((cell_far (p := ⟨gb255, _, none⟩) NB240_255.out _).trans (((cell_far (p := ⟨gb255, _, none⟩) NB240_255.out _).trans (hHeld.2.2.2))))))⟩ (fun hHeld => ?_)
              clear hK K
              refine done_ (by kernel_rfl) ?_
              try go_wp2
              go_meet
              case rel => exact ⟨_, (0), (false), (a1_2), (t260), (t256), (.slice Ao67 t256.length co67), H', ⟨by have := HJ2.out; first | omega | exact Nat.le_refl _⟩, ⟨by (with_reducible repeat (first | apply rA_ | apply rN_ | apply rD_)); exact Kd.R_mono (Kd.R_far (p := ⟨gb255, 2, none⟩) (Kd.R_far (p := ⟨gb255, 1, none⟩) (Kd.R_far (p := ⟨gb255, 0, none⟩) (Kd.R_types HO258.out BK255.out (by decide)) (fun _ hk => hk.2) (.int .i64 a1_2)) (fun _ hk => hk.2) (.bool t260)) (fun _ hk => hk.2) (.slice Ao67 t256.length co67)) (fun _ hk => trivial)⟩, ⟨by (with_reducible repeat (first | apply kN_ | apply kD_ | apply kA_)); refine blk_far ?_ NB239_255.out _; (with_reducible repeat (first | apply kN_ | apply kD_ | apply kA_)); refine blk_far ?_ NB239_255.out _; (with_reducible repeat (first | apply kN_ | apply kD_ | apply kA_)); refine blk_far ?_ NB239_255.out _; (with_reducible repeat (first | apply kN_ | apply kD_ | apply kA_)); exact BK239.out⟩, ⟨by (with_reducible repeat (first | apply kN_ | apply kD_ | apply kA_)); refine blk_far ?_ NB240_255.out _; (with_reducible repeat (first | apply kN_ | apply kD_ | apply kA_)); refine blk_far ?_ NB240_255.out _; (with_reducible repeat (first | apply kN_ | apply kD_ | apply kA_)); refine blk_far ?_ NB240_255.out _; (with_reducible repeat (first | apply kN_ | apply kD_ | apply kA_)); exact BK240.out⟩, ⟨by (with_reducible repeat (first | apply kN_ | apply kD_ | apply kA_)); refine blk_far ?_ NB241_255.out _; (with_reducible repeat (first | apply kN_ | apply kD_ | apply kA_)); refine blk_far ?_ NB241_255.out _; (with_reducible repeat (first | apply kN_ | apply kD_ | apply kA_)); refine blk_far ?_ NB241_255.out _; (with_reducible repeat (first | apply kN_ | apply kD_ | apply kA_)); exact BK241.out⟩, ⟨by (with_reducible repeat (first | apply kN_ | apply kD_ | apply kA_)); refine blk_put (cs := #[.int .i64 a1_2, .bool t260, .slice Ao53 t252.length co53]) ?_ 2 _ rfl; (with_reducible repeat (first | apply kN_ | apply kD_ | apply kA_)); refine blk_put (cs := #[.int .i64 a1_2, .bool t251, .slice Ao53 t252.length co53]) ?_ 1 _ rfl; (with_reducible repeat (first | apply kN_ | apply kD_ | apply kA_)); refine blk_put (cs := #[.int .i64 t250, .bool t251, .slice Ao53 t252.length co53]) ?_ 0 _ rfl; (with_reducible repeat (first | apply kN_ | apply kD_ | apply kA_)); exact BK255.out⟩, ⟨by repeat (first | (with_reducible first | exact HB.out | apply bA_ | apply bN_ | apply bD_ | refine bS_ ?_ GE239.out | refine bS_ ?_ GE240.out | refine bS_ ?_ GE241.out | refine bS_ ?_ GE255.out) | exact HB.out)⟩⟩
            · replace c58 := Bool.eq_false_iff.mpr c58
              subst c58
              have H1 : ((impl_copyGather.f a0_0 a0_1 l0_2).bind fun bt261 => (some (bt261.1, bt261.2.1, bt261.2.2, ([] : List Int), 3))) = some (r1, r2, r3, r4, r5) := by rw [if_neg (show ¬ (false = true) by decide)] at H; exact H
              clear H
              have H := H1
              clear H1
              replace H := Option.bind_eq_some_iff.mp H
              obtain ⟨⟨t261, t262, t263⟩, A710, H⟩ := H
              replace H : (some (t261, t262, t263, ([] : List Int), 3)) = some (r1, r2, r3, r4, r5) := H
              have A71 := Aside0.mk A710
              clear A710
              simp only [Option.some.injEq, Prod.mk.injEq] at H
              obtain ⟨rfl, rfl, rfl, rfl, rfl⟩ := H
              have hnb72 := NB240_239.out
              have hnc72 := NB239_240.out
              have hnb73 := NB240_241.out
              have hnc73 := NB241_240.out
              have hnb74 := NB240_255.out
              have hnc74 := NB255_240.out
              obtain ⟨hcz75_0, hcz75_1, hcz75_2, hcz75_3, hfz75_0, hfz75_1, hfz75_2, hfz75_3⟩ := blk_all4 BK240.out
              go_wp2_with (first | ((with_reducible refine gate_callee (f := 62) rfl ?_); refine goesL_ (some 35) rfl rfl Try.func62 (by kernel_rfl) rfl #[.agg #[.int .i64 a1_0, .int .i64 a1_1, .int .i64 a1_2, .slice A1_3 l1_3.length c1_3]] rfl (by (try simp only [List.map_toArray, List.map_cons, List.map_nil]); first | done | rfl | (simp only [List.length_drop, List.length_take]; rfl)) ?_; (with_reducible refine (impl_Unpad.calls kj2 a1_0 a1_1 a1_2 (fun k_ => k_ < w.heap.size) _ _ l1_3 t256 false _ ?side1 A57.out).mono ?_); (case side1 => exact Kd.V_mk HC1_3.out (Kd.F_below (Kd.C_F (Kd.heap_int .u8) HR1_3.out) (by repeat (first | (with_reducible first | exact HB.out | apply bA_ | apply bN_ | apply bD_ | refine bS_ ?_ GE239.out | refine bS_ ?_ GE240.out | refine bS_ ?_ GE241.out | refine bS_ ?_ GE255.out) | exact HB.out)))); rintro e w76 ⟨v257, rfl, ho0, hb⟩; refine ⟨_, rfl, ?_⟩; have n0_ := As_ (Kd.R_elder' (by (with_reducible repeat (first | apply rA_ | apply rN_ | apply rD_)); exact (Kd.R_mono (Kd.R_far (p := ⟨gb255, 2, none⟩) (Kd.R_far (p := ⟨gb255, 1, none⟩) (Kd.R_far (p := ⟨gb255, 0, none⟩) (Kd.R_types HO254.out BK255.out (by decide)) (fun _ hk => hk.2) (.int .i64 t250)) (fun _ hk => hk.2) (.bool t251)) (fun _ hk => hk.2) (.slice Ao53 t252.length co53)) (fun _ h_ => h_.1))) (Kd.R_base ho0) hb); have HO258 := As_ (Kd.R_lower (Kd.R_new' (Kd.R_mono (ok' := fun k_ => True) ho0 (fun _ hk_ => trivial)) (Kd.R_lt (by (with_reducible repeat (first | apply rA_ | apply rN_ | apply rD_)); exact (Kd.R_mono (Kd.R_far (p := ⟨gb255, 2, none⟩) (Kd.R_far (p := ⟨gb255, 1, none⟩) (Kd.R_far (p := ⟨gb255, 0, none⟩) (Kd.R_types HO254.out BK255.out (by decide)) (fun _ hk => hk.2) (.int .i64 t250)) (fun _ hk => hk.2) (.bool t251)) (fun _ hk => hk.2) (.slice Ao53 t252.length co53)) (fun _ h_ => h_.1))))) (below_size (by repeat (first | (with_reducible first | exact HB.out | apply bA_ | apply bN_ | apply bD_ | refine bS_ ?_ GE239.out | refine bS_ ?_ GE240.out | refine bS_ ?_ GE241.out | refine bS_ ?_ GE255.out) | exact HB.out)))); replace BK239 := As_ (blk_below (g := gb239) (o := .cells #[.int .i64 a0_0, .bool a0_1, .slice A0_2 l0_2.length c0_2] 41 (0, 0)) (by (with_reducible repeat (first | apply kN_ | apply kD_ | apply kA_)); refine blk_far ?_ NB239_255.out _; (with_reducible repeat (first | apply kN_ | apply kD_ | apply kA_)); refine blk_far ?_ NB239_255.out _; (with_reducible repeat (first | apply kN_ | apply kD_ | apply kA_)); refine blk_far ?_ NB239_255.out _; (with_reducible repeat (first | apply kN_ | apply kD_ | apply kA_)); exact BK239.out) hb); replace BK240 := As_ (blk_below (g := gb240) (o := .cells #[.int .i64 a1_0, .int .i64 a1_1, .int .i64 a1_2, .slice A1_3 l1_3.length c1_3] 45 (0, 0)) (by (with_reducible repeat (first | apply kN_ | apply kD_ | apply kA_)); refine blk_far ?_ NB240_255.out _; (with_reducible repeat (first | apply kN_ | apply kD_ | apply kA_)); refine blk_far ?_ NB240_255.out _; (with_reducible repeat (first | apply kN_ | apply kD_ | apply kA_)); refine blk_far ?_ NB240_255.out _; (with_reducible repeat (first | apply kN_ | apply kD_ | apply kA_)); exact BK240.out) hb); replace BK241 := As_ (blk_below (g := gb241) (o := .cells #[.int .i64 0, .bool false, .slice none 0 0] 41 (0, 0)) (by (with_reducible repeat (first | apply kN_ | apply kD_ | apply kA_)); refine blk_far ?_ NB241_255.out _; (with_reducible repeat (first | apply kN_ | apply kD_ | apply kA_)); refine blk_far ?_ NB241_255.out _; (with_reducible repeat (first | apply kN_ | apply kD_ | apply kA_)); refine blk_far ?_ NB241_255.out _; (with_reducible repeat (first | apply kN_ | apply kD_ | apply kA_)); exact BK241.out) hb); replace BK255 := As_ (blk_below (g := gb255) (o := .cells #[.int .i64 t250, .bool t251, .slice Ao53 t252.length co53] 41 (0, 0)) (by (with_reducible repeat (first | apply kN_ | apply kD_ | apply kA_)); refine blk_put (cs := #[.int .i64 t250, .bool t251, .slice none 0 0]) ?_ 2 _ rfl; (with_reducible repeat (first | apply kN_ | apply kD_ | apply kA_)); refine blk_put (cs := #[.int .i64 t250, .bool false, .slice none 0 0]) ?_ 1 _ rfl; (with_reducible repeat (first | apply kN_ | apply kD_ | apply kA_)); refine blk_put (cs := #[.int .i64 0, .bool false, .slice none 0 0]) ?_ 0 _ rfl; (with_reducible repeat (first | apply kN_ | apply kD_ | apply kA_)); exact BK255.out) hb); replace HB := As_ (below_step (by repeat (first | (with_reducible first | exact HB.out | apply bA_ | apply bN_ | apply bD_ | refine bS_ ?_ GE239.out | refine bS_ ?_ GE240.out | refine bS_ ?_ GE241.out | refine bS_ ?_ GE255.out) | exact HB.out)) hb); clear HO254; have HO254 := n0_; clear n0_; (try clear hb); (try clear hb2); (try clear hk); (try clear hi); (try clear ho0); have hnb77 := NB239_241.out; have hnc77 := NB241_239.out; have hnb78 := NB239_255.out; have hnc78 := NB255_239.out; obtain ⟨hcz79_0, hcz79_1, hcz79_2, hfz79_0, hfz79_1, hfz79_2⟩ := blk_all3 BK239.out) | ((with_reducible refine gate_callee (f := 61) rfl ?_); refine goesL_ (some 41) rfl rfl Try.func61 (by kernel_rfl) rfl #[.agg #[.int .i64 a0_0, .bool a0_1, .slice A0_2 l0_2.length c0_2]] rfl (by (try simp only [List.map_toArray, List.map_cons, List.map_nil]); first | done | rfl | (simp only [List.length_drop, List.length_take]; rfl)) ?_; (with_reducible refine (impl_copyGather.calls a0_0 a0_1 _ _ l0_2 t261 t262 t263 _ ?side1 ?side2 A71.out).mono ?_); (case side1 => repeat (first | exact (Kd.C_below HR0_2.out HB.out) | (with_reducible first | apply cA_ | apply cN_ | apply cD_))); (case side2 => exact HC0_2.out); rintro e w80 ⟨v264, rfl, ho0, hb⟩; refine ⟨_, rfl, ?_⟩; have n0_ := As_ (Kd.R_elder' (by (with_reducible repeat (first | apply rA_ | apply rN_ | apply rD_)); exact HO254.out) (Kd.R_base ho0) hb); have n1_ := As_ (Kd.R_elder' (by (with_reducible repeat (first | apply rA_ | apply rN_ | apply rD_)); exact HO258.out) (Kd.R_base ho0) hb); have HO265 := As_ (Kd.R_lower (Kd.R_new' (Kd.R_new' ho0 (Kd.R_lt (by (with_reducible repeat (first | apply rA_ | apply rN_ | apply rD_)); exact HO254.out))) (Kd.R_lt (by (with_reducible repeat (first | apply rA_ | apply rN_ | apply rD_)); exact HO258.out))) (below_size (by repeat (first | (with_reducible first | exact HB.out | apply bA_ | apply bN_ | apply bD_ | refine bS_ ?_ GE239.out | refine bS_ ?_ GE240.out | refine bS_ ?_ GE241.out | refine bS_ ?_ GE255.out) | exact HB.out)))); replace BK239 := As_ (blk_below (g := gb239) (o := .cells #[.int .i64 a0_0, .bool a0_1, .slice A0_2 l0_2.length c0_2] 41 (0, 0)) (by (with_reducible repeat (first | apply kN_ | apply kD_ | apply kA_)); exact BK239.out) hb); replace BK240 := As_ (blk_below (g := gb240) (o := .cells #[.int .i64 a1_0, .int .i64 a1_1, .int .i64 a1_2, .slice A1_3 l1_3.length c1_3] 45 (0, 0)) (by (with_reducible repeat (first | apply kN_ | apply kD_ | apply kA_)); exact BK240.out) hb); replace BK241 := As_ (blk_below (g := gb241) (o := .cells #[.int .i64 0, .bool false, .slice none 0 0] 41 (0, 0)) (by (with_reducible repeat (first | apply kN_ | apply kD_ | apply kA_)); exact BK241.out) hb); replace BK255 := As_ (blk_below (g := gb255) (o := .cells #[.int .i64 t250, .bool t251, .slice Ao53 t252.length co53] 41 (0, 0)) (by (with_reducible repeat (first | apply kN_ | apply kD_ | apply kA_)); exact BK255.out) hb); replace HB := As_ (below_step (by repeat (first | (with_reducible first | exact HB.out | apply bA_ | apply bN_ | apply bD_ | refine bS_ ?_ GE239.out | refine bS_ ?_ GE240.out | refine bS_ ?_ GE241.out | refine bS_ ?_ GE255.out) | exact HB.out)) hb); clear HO254 HO258; have HO254 := n0_; have HO258 := n1_; clear n0_ n1_; (try clear hb); (try clear hb2); (try clear hk); (try clear hi); (try clear ho0); have hnb81 := NB241_255.out; have hnc81 := NB255_241.out; obtain ⟨hcz82_0, hcz82_1, hcz82_2, hfz82_0, hfz82_1, hfz82_2⟩ := blk_all3 BK241.out; obtain ⟨Ao83, co83, eo83⟩ := Kd.R_slice HO265.out; subst eo83))
              refine bodyPost_ret (results_ctt rfl _ _ gb241 41 #[.int .i64 t261, .bool t262, .slice Ao83 t263.length co83] (0, 0) _ rfl (by (with_reducible repeat (first | apply kN_ | apply kD_ | apply kA_)); refine blk_put (cs := #[.int .i64 t261, .bool t262, .slice none 0 0]) ?_ 2 _ rfl; (with_reducible repeat (first | apply kN_ | apply kD_ | apply kA_)); refine blk_put (cs := #[.int .i64 t261, .bool false, .slice none 0 0]) ?_ 1 _ rfl; (with_reducible repeat (first | apply kN_ | apply kD_ | apply kA_)); refine blk_put (cs := #[.int .i64 0, .bool false, .slice none 0 0]) ?_ 0 _ rfl; (with_reducible repeat (first | apply kN_ | apply kD_ | apply kA_)); exact BK241.out) Try.underlying41 rfl (by kernel_rfl)) rfl ?_
              exact ⟨_, _, by first | rfl | (simp [errW_none, errW_some] <;> rfl) | (simp [*, errW_none, errW_some] <;> rfl), by (with_reducible repeat (first | apply rA_ | apply rN_ | apply rD_)); exact Kd.R_mono (Kd.R_far (p := ⟨gb241, 2, none⟩) (Kd.R_far (p := ⟨gb241, 1, none⟩) (Kd.R_far (p := ⟨gb241, 0, none⟩) (Kd.R_types HO265.out BK241.out (by decide)) (fun _ hk => hk.2) (.int .i64 t261)) (fun _ hk => hk.2) (.bool t262)) (fun _ hk => hk.2) (.slice Ao83 t263.length co83)) (fun _ hk => (by simp [Value.ownBlock])), by first | exact Kd.R_nil _ _ _ _ _ | exact Kd.N_nil _ _ _ _ _ | exact Kd.V_nil _ _ _ _ _ | exact Kd.Q_nil _ _ _ _ _ | exact Kd.S_nil _ _ _ _ _, by repeat (first | (with_reducible first | exact HB.out | apply bA_ | apply bN_ | apply bD_ | refine bS_ ?_ GE239.out | refine bS_ ?_ GE240.out | refine bS_ ?_ GE241.out | refine bS_ ?_ GE255.out) | exact HB.out)⟩
          · rw [if_neg c56] at H
            have c56b0 : (a1_0 == 1) = false := beq_eq_false_iff_ne.mpr c56
            have c56b1 : (a1_0 != 1) = true := bne_iff_ne.mpr c56
            (first | rw [c56b0] | (simp only [i64_w, i32_w]; rw [c56b0]) | skip)
            by_cases c84 : a1_0 = 9
            · rw [if_pos c84] at H
              have c84b0 : (a1_0 == 9) = true := beq_iff_eq.mpr c84
              have c84b1 : (a1_0 != 9) = false := bne_eq_false_iff_eq.mpr c84
              clear c84
              by_cases c85 : t252.length + l1_3.length < 140737488355328
              · rw [if_pos c85] at H
                have LMc85 := Aside0.mk c85
                clear c85
                obtain ⟨y266, hy266⟩ : ∃ y_ : List Int, y_ = (t252 ++ l1_3) := ⟨_, rfl⟩
                replace H : (impl_Feed.j1 kj2 a0_0 a0_1 l0_2 a1_0 a1_1 a1_2 l1_3 t250 t251 y266) = some (r1, r2, r3, r4, r5) := by first | (rw [hy266]; with_reducible exact H) | (have H2_ := (Option.bind_some _ _).symm.trans H; rw [hy266]; with_reducible exact H2_) | (have H2_ := (Option.bind_some _ _).symm.trans H; with_reducible exact H2_) | with_reducible exact H | (rw [hy266]; exact H) | exact H
                have Ny266 := Aside0.mk hy266
                clear hy266
                have H' := Aside0.mk H
                clear H
                have hnb86 := NB255_239.out
                have hnc86 := NB239_255.out
                have hnb87 := NB255_240.out
                have hnc87 := NB240_255.out
                have hnb88 := NB255_241.out
                have hnc88 := NB241_255.out
                obtain ⟨hcz89_0, hcz89_1, hcz89_2, hfz89_0, hfz89_1, hfz89_2⟩ := blk_all3 BK255.out
                have hnb90 := NB240_239.out
                have hnc90 := NB239_240.out
                have hnb91 := NB240_241.out
                have hnc91 := NB241_240.out
                obtain ⟨hcz92_0, hcz92_1, hcz92_2, hcz92_3, hfz92_0, hfz92_1, hfz92_2, hfz92_3⟩ := blk_all4 BK240.out
                go_wp2_with (first | ((with_reducible refine gate_builtin (b := .append) (xs := #[.tmp 51, .tmp 53]) rfl ?_); at_builtin; refine Kd.R_append_rows (Kd.int .u8) (w0 := w) w.heap.size rfl (.tmp 51) (.tmp 53) 31 5 (.int .u8 0) 1 rfl Try.underlying31 info5 rfl (by decide) (by omega) (.slice Ao53 t252.length co53) t252 l1_3 _ _ _ (fun _ => True) (fun _ => False) rfl rfl ?aO ?aR (fun _ _ h => h) (fun _ h => h.elim) ?aF ?aB ?aS ?aL ?_; (case aR => exact Kd.C_below HR1_3.out (by repeat (first | (with_reducible first | exact HB.out | apply bA_ | apply bN_ | apply bD_ | refine bS_ ?_ GE239.out | refine bS_ ?_ GE240.out | refine bS_ ?_ GE241.out | refine bS_ ?_ GE255.out) | exact HB.out))); (case aB => exact (by repeat (first | (with_reducible first | exact HB.out | apply bA_ | apply bN_ | apply bD_ | refine bS_ ?_ GE239.out | refine bS_ ?_ GE240.out | refine bS_ ?_ GE241.out | refine bS_ ?_ GE255.out) | exact HB.out))); (case aF => exact (fun _ _ => trivial)); (case aO => exact (by (with_reducible repeat (first | apply rA_ | apply rN_ | apply rD_)); exact Kd.R_mono (Kd.R_far (p := ⟨gb255, 2, none⟩) (Kd.R_far (p := ⟨gb255, 1, none⟩) (Kd.R_far (p := ⟨gb255, 0, none⟩) (Kd.R_types HO254.out BK255.out (by decide)) (fun _ hk => hk.2) (.int .i64 t250)) (fun _ hk => hk.2) (.bool t251)) (fun _ hk => hk.2) (.slice Ao53 t252.length co53)) (fun _ hk => trivial))); (case aS => exact (below_size (by repeat (first | (with_reducible first | exact HB.out | apply bA_ | apply bN_ | apply bD_ | refine bS_ ?_ GE239.out | refine bS_ ?_ GE240.out | refine bS_ ?_ GE241.out | refine bS_ ?_ GE255.out) | exact HB.out)))); (case aL => have := LMc85.out; omega); intro v267 w93 ho hb hg hat; rw [← Ny266.out] at ho; have n0_ := As_ (blk_grown (g := gb239) (o := .cells #[.int .i64 a0_0, .bool a0_1, .slice A0_2 l0_2.length c0_2] 41 (0, 0)) (by (with_reducible repeat (first | apply kN_ | apply kD_ | apply kA_)); refine blk_far ?_ NB239_255.out _; (with_reducible repeat (first | apply kN_ | apply kD_ | apply kA_)); refine blk_far ?_ NB239_255.out _; (with_reducible repeat (first | apply kN_ | apply kD_ | apply kA_)); refine blk_far ?_ NB239_255.out _; (with_reducible repeat (first | apply kN_ | apply kD_ | apply kA_)); exact BK239.out) hg (Kd.R_ne HO254.out BK239.out (by decide))); have n1_ := As_ (blk_grown (g := gb240) (o := .cells #[.int .i64 a1_0, .int .i64 a1_1, .int .i64 a1_2, .slice A1_3 l1_3.length c1_3] 45 (0, 0)) (by (with_reducible repeat (first | apply kN_ | apply kD_ | apply kA_)); refine blk_far ?_ NB240_255.out _; (with_reducible repeat (first | apply kN_ | apply kD_ | apply kA_)); refine blk_far ?_ NB240_255.out _; (with_reducible repeat (first | apply kN_ | apply kD_ | apply kA_)); refine blk_far ?_ NB240_255.out _; (with_reducible repeat (first | apply kN_ | apply kD_ | apply kA_)); exact BK240.out) hg (Kd.R_ne HO254.out BK240.out (by decide))); have n2_ := As_ (blk_grown (g := gb241) (o := .cells #[.int .i64 0, .bool false, .slice none 0 0] 41 (0, 0)) (by (with_reducible repeat (first | apply kN_ | apply kD_ | apply kA_)); refine blk_far ?_ NB241_255.out _; (with_reducible repeat (first | apply kN_ | apply kD_ | apply kA_)); refine blk_far ?_ NB241_255.out _; (with_reducible repeat (first | apply kN_ | apply kD_ | apply kA_)); refine blk_far ?_ NB241_255.out _; (with_reducible repeat (first | apply kN_ | apply kD_ | apply kA_)); exact BK241.out) hg (Kd.R_ne HO254.out BK241.out (by decide))); have n3_ := As_ (blk_grown (g := gb255) (o := .cells #[.int .i64 t250, .bool t251, .slice Ao53 t252.length co53] 41 (0, 0)) (by (with_reducible repeat (first | apply kN_ | apply kD_ | apply kA_)); refine blk_put (cs := #[.int .i64 t250, .bool t251, .slice none 0 0]) ?_ 2 _ rfl; (with_reducible repeat (first | apply kN_ | apply kD_ | apply kA_)); refine blk_put (cs := #[.int .i64 t250, .bool false, .slice none 0 0]) ?_ 1 _ rfl; (with_reducible repeat (first | apply kN_ | apply kD_ | apply kA_)); refine blk_put (cs := #[.int .i64 0, .bool false, .slice none 0 0]) ?_ 0 _ rfl; (with_reducible repeat (first | apply kN_ | apply kD_ | apply kA_)); exact BK255.out) hg (Kd.R_ne HO254.out BK255.out (by decide))); have n4_ := As_ (hb); have n5_ := As_ (ho); clear BK239 BK240 BK241 BK255 HB HO254; have BK239 := n0_; have BK240 := n1_; have BK241 := n2_; have BK255 := n3_; have HB := n4_; have HO268 := n5_; clear n0_ n1_ n2_ n3_ n4_ n5_ ho hb hg hat; obtain ⟨Ao94, co94, eo94⟩ := Kd.R_slice HO268.out; subst eo94; obtain ⟨hcz95_0, hcz95_1, hcz95_2, hfz95_0, hfz95_1, hfz95_2⟩ := blk_all3 BK255.out))
                go_meet
                case rel => exact ⟨_, (0), (false), (t250), (t251), (y266), (.slice Ao94 y266.length co94), H', ⟨by have := HJ2.out; first | omega | exact Nat.le_refl _⟩, ⟨by (with_reducible repeat (first | apply rA_ | apply rN_ | apply rD_)); exact Kd.R_mono (Kd.R_far (p := ⟨gb255, 2, none⟩) (Kd.R_types HO268.out BK255.out (by decide)) (fun _ hk => hk.2) (.slice Ao94 y266.length co94)) (fun _ hk => trivial)⟩, ⟨by (with_reducible repeat (first | apply kN_ | apply kD_ | apply kA_)); refine blk_far ?_ NB239_255.out _; (with_reducible repeat (first | apply kN_ | apply kD_ | apply kA_)); exact BK239.out⟩, ⟨by (with_reducible repeat (first | apply kN_ | apply kD_ | apply kA_)); refine blk_far ?_ NB240_255.out _; (with_reducible repeat (first | apply kN_ | apply kD_ | apply kA_)); exact BK240.out⟩, ⟨by (with_reducible repeat (first | apply kN_ | apply kD_ | apply kA_)); refine blk_far ?_ NB241_255.out _; (with_reducible repeat (first | apply kN_ | apply kD_ | apply kA_)); exact BK241.out⟩, ⟨by (with_reducible repeat (first | apply kN_ | apply kD_ | apply kA_)); refine blk_put (cs := #[.int .i64 t250, .bool t251, .slice Ao53 t252.length co53]) ?_ 2 _ rfl; (with_reducible repeat (first | apply kN_ | apply kD_ | apply kA_)); exact BK255.out⟩, ⟨by repeat (first | (with_reducible first | exact HB.out | apply bA_ | apply bN_ | apply bD_ | refine bS_ ?_ GE239.out | refine bS_ ?_ GE240.out | refine bS_ ?_ GE241.out | refine bS_ ?_ GE255.out) | exact HB.out)⟩⟩
              · rw [if_neg c85] at H
                exact absurd H (by simp)
            · rw [if_neg c84] at H
              have c84b0 : (a1_0 == 9) = false := beq_eq_false_iff_ne.mpr c84
              have c84b1 : (a1_0 != 9) = true := bne_iff_ne.mpr c84
              simp only [Option.some.injEq, Prod.mk.injEq] at H
              obtain ⟨rfl, rfl, rfl, rfl, rfl⟩ := H
              have hnb96 := NB255_239.out
              have hnc96 := NB239_255.out
              have hnb97 := NB255_240.out
              have hnc97 := NB240_255.out
              have hnb98 := NB255_241.out
              have hnc98 := NB241_255.out
              obtain ⟨hcz99_0, hcz99_1, hcz99_2, hfz99_0, hfz99_1, hfz99_2⟩ := blk_all3 BK255.out
              have hnb100 := NB241_239.out
              have hnc100 := NB239_241.out
              have hnb101 := NB241_240.out
              have hnc101 := NB240_241.out
              obtain ⟨hcz102_0, hcz102_1, hcz102_2, hfz102_0, hfz102_1, hfz102_2⟩ := blk_all3 BK241.out
              go_wp2
              refine bodyPost_ret (results_ctt rfl _ _ gb241 41 #[.int .i64 t250, .bool t251, .slice Ao53 t252.length co53] (0, 0) _ rfl (by (with_reducible repeat (first | apply kN_ | apply kD_ | apply kA_)); refine blk_put (cs := #[.int .i64 t250, .bool t251, .slice none 0 0]) ?_ 2 _ rfl; (with_reducible repeat (first | apply kN_ | apply kD_ | apply kA_)); refine blk_put (cs := #[.int .i64 t250, .bool false, .slice none 0 0]) ?_ 1 _ rfl; (with_reducible repeat (first | apply kN_ | apply kD_ | apply kA_)); refine blk_put (cs := #[.int .i64 0, .bool false, .slice none 0 0]) ?_ 0 _ rfl; (with_reducible repeat (first | apply kN_ | apply kD_ | apply kA_)); refine blk_far ?_ NB241_255.out _; (with_reducible repeat (first | apply kN_ | apply kD_ | apply kA_)); refine blk_far ?_ NB241_255.out _; (with_reducible repeat (first | apply kN_ | apply kD_ | apply kA_)); refine blk_far ?_ NB241_255.out _; (with_reducible repeat (first | apply kN_ | apply kD_ | apply kA_)); exact BK241.out) Try.underlying41 rfl (by kernel_rfl)) rfl ?_
              exact ⟨_, _, by first | rfl | (simp [errW_none, errW_some] <;> rfl) | (simp [*, errW_none, errW_some] <;> rfl), by (with_reducible repeat (first | apply rA_ | apply rN_ | apply rD_)); exact Kd.R_mono (Kd.R_far (p := ⟨gb241, 2, none⟩) (Kd.R_far (p := ⟨gb241, 1, none⟩) (Kd.R_far (p := ⟨gb241, 0, none⟩) (Kd.R_far (p := ⟨gb255, 2, none⟩) (Kd.R_far (p := ⟨gb255, 1, none⟩) (Kd.R_far (p := ⟨gb255, 0, none⟩) (Kd.R_types (Kd.R_types HO254.out BK255.out (by decide)) BK241.out (by decide)) (fun _ hk => hk.1.2) (.int .i64 t250)) (fun _ hk => hk.1.2) (.bool t251)) (fun _ hk => hk.1.2) (.slice Ao53 t252.length co53)) (fun _ hk => hk.2) (.int .i64 t250)) (fun _ hk => hk.2) (.bool t251)) (fun _ hk => hk.2) (.slice Ao53 t252.length co53)) (fun _ hk => (by simp [Value.ownBlock])), by first | exact Kd.R_nil _ _ _ _ _ | exact Kd.N_nil _ _ _ _ _ | exact Kd.V_nil _ _ _ _ _ | exact Kd.Q_nil _ _ _ _ _ | exact Kd.S_nil _ _ _ _ _, by repeat (first | (with_reducible first | exact HB.out | apply bA_ | apply bN_ | apply bD_ | refine bS_ ?_ GE239.out | refine bS_ ?_ GE240.out | refine bS_ ?_ GE241.out | refine bS_ ?_ GE255.out) | exact HB.out)⟩
        case rest =>
          clear HC43
          try clear c1
          try clear c2
          try clear p2
          try clear c3
          try clear c4
          try clear c5
          try clear c6
          try clear c7
          try clear c8
          try clear c9
          try clear c10
          try clear c10b0
          try clear c10b1
          try clear c12
          try clear c13
          try clear c16
          try clear c22
          try clear c23
          try clear c26
          try clear c28
          try clear c29
          try clear c30
          try clear c33
          try clear c35
          try clear c36
          try clear c38
          try clear c39
          try clear c44
          try clear c45
          try clear c49
          try clear c50
          try clear c51
          try clear c54
          try clear c56
          try clear c56b0
          try clear c56b1
          try clear c58
          try clear c60
          try clear c61
          try clear c62
          try clear c63
          try clear c72
          try clear c73
          try clear c74
          try clear c77
          try clear c78
          try clear c81
          try clear c84
          try clear c84b0
          try clear c84b1
          try clear c85
          try clear c86
          try clear c87
          try clear c88
          try clear c90
          try clear c91
          try clear c96
          try clear c97
          try clear c98
          try clear c100
          try clear c101
          try clear hcz102_0
          try clear hcz102_1
          try clear hcz102_2
          try clear hcz14_0
          try clear hcz14_1
          try clear hcz14_2
          try clear hcz17_0
          try clear hcz17_1
          try clear hcz17_2
          try clear hcz17_3
          try clear hcz19_0
          try clear hcz19_1
          try clear hcz19_2
          try clear hcz20_0
          try clear hcz20_1
          try clear hcz20_2
          try clear hcz20_3
          try clear hcz24_0
          try clear hcz24_1
          try clear hcz24_2
          try clear hcz27_0
          try clear hcz27_1
          try clear hcz27_2
          try clear hcz27_3
          try clear hcz31_0
          try clear hcz31_1
          try clear hcz31_2
          try clear hcz37_0
          try clear hcz37_1
          try clear hcz37_2
          try clear hcz40_0
          try clear hcz40_1
          try clear hcz40_2
          try clear hcz46_0
          try clear hcz46_1
          try clear hcz46_2
          try clear hcz52_0
          try clear hcz52_1
          try clear hcz52_2
          try clear hcz55_0
          try clear hcz55_1
          try clear hcz55_2
          try clear hcz55_3
          try clear hcz63_0
          try clear hcz63_1
          try clear hcz63_2
          try clear hcz63_3
          try clear hcz75_0
          try clear hcz75_1
          try clear hcz75_2
          try clear hcz75_3
          try clear hcz79_0
          try clear hcz79_1
          try clear hcz79_2
          try clear hcz82_0
          try clear hcz82_1
          try clear hcz82_2
          try clear hcz89_0
          try clear hcz89_1
          try clear hcz89_2
          try clear hcz92_0
          try clear hcz92_1
          try clear hcz92_2
          try clear hcz92_3
          try clear hcz95_0
          try clear hcz95_1
          try clear hcz95_2
          try clear hcz99_0
          try clear hcz99_1
          try clear hcz99_2
          try clear hfz102_0
          try clear hfz102_1
          try clear hfz102_2
          try clear hfz14_0
          try clear hfz14_1
          try clear hfz14_2
          try clear hfz17_0
          try clear hfz17_1
          try clear hfz17_2
          try clear hfz17_3
          try clear hfz19_0
          try clear hfz19_1
          try clear hfz19_2
          try clear hfz20_0
          try clear hfz20_1
          try clear hfz20_2
          try clear hfz20_3
          try clear hfz24_0
          try clear hfz24_1
          try clear hfz24_2
          try clear hfz27_0
          try clear hfz27_1
          try clear hfz27_2
          try clear hfz27_3
          try clear hfz31_0
          try clear hfz31_1
          try clear hfz31_2
          try clear hfz37_0
          try clear hfz37_1
          try clear hfz37_2
          try clear hfz40_0
          try clear hfz40_1
          try clear hfz40_2
          try clear hfz46_0
          try clear hfz46_1
          try clear hfz46_2
          try clear hfz52_0
          try clear hfz52_1
          try clear hfz52_2
          try clear hfz55_0
          try clear hfz55_1
          try clear hfz55_2
          try clear hfz55_3
          try clear hfz63_0
          try clear hfz63_1
          try clear hfz63_2
          try clear hfz63_3
          try clear hfz75_0
          try clear hfz75_1
          try clear hfz75_2
          try clear hfz75_3
          try clear hfz79_0
          try clear hfz79_1
          try clear hfz79_2
          try clear hfz82_0
          try clear hfz82_1
          try clear hfz82_2
          try clear hfz89_0
          try clear hfz89_1
          try clear hfz89_2
          try clear hfz92_0
          try clear hfz92_1
          try clear hfz92_2
          try clear hfz92_3
          try clear hfz95_0
          try clear hfz95_1
          try clear hfz95_2
          try clear hfz99_0
          try clear hfz99_1
          try clear hfz99_2
          try clear p2
          obtain ⟨kq, x242000_42, x242001_42, x256000_42, x256001_42, x256002_42, u256002, HA, HJ42, HO_256002, BK239, BK240, BK241, BK255, HB⟩ := hcut
          cases kq with
          | zero => exact absurd HA.out (by simp [impl_Feed.j1])
          | succ kj42 =>
            have H := HA.out
            clear HA
            simp only [impl_Feed.j1] at H
            by_cases c103 : (x256002_42.length : Int) > 3000
            · rw [if_pos c103] at H
              have c103b0 : decide (3000 < (x256002_42.length : Int)) = true := decide_eq_true c103
              have c103b1 : decide (3000 < x256002_42.length) = true := decide_eq_true (by omega)
              clear c103
              replace H := Option.bind_eq_some_iff.mp H
              obtain ⟨⟨t269, t270, t271⟩, A1040, H⟩ := H
              replace H : (some (t269, t270, t271, ([] : List Int), 4)) = some (r1, r2, r3, r4, r5) := H
              have A104 := Aside0.mk A1040
              clear A1040
              simp only [Option.some.injEq, Prod.mk.injEq] at H
              obtain ⟨rfl, rfl, rfl, rfl, rfl⟩ := H
              have hnb105 := NB255_239.out
              have hnc105 := NB239_255.out
              have hnb106 := NB255_240.out
              have hnc106 := NB240_255.out
              have hnb107 := NB255_241.out
              have hnc107 := NB241_255.out
              obtain ⟨hcz108_0, hcz108_1, hcz108_2, hfz108_0, hfz108_1, hfz108_2⟩ := blk_all3 BK255.out
              obtain ⟨Ao109, co109, eo109⟩ := Kd.R_slice HO_256002.out
              subst eo109
              have hnb110 := NB239_240.out
              have hnc110 := NB240_239.out
              have hnb111 := NB239_241.out
              have hnc111 := NB241_239.out
              obtain ⟨hcz112_0, hcz112_1, hcz112_2, hfz112_0, hfz112_1, hfz112_2⟩ := blk_all3 BK239.out
              go_wp2_with (first | ((with_reducible refine gate_callee (f := 61) rfl ?_); refine goesL_ (some 61) rfl rfl Try.func61 (by kernel_rfl) rfl #[.agg #[.int .i64 a0_0, .bool a0_1, .slice A0_2 l0_2.length c0_2]] rfl (by (try simp only [List.map_toArray, List.map_cons, List.map_nil]); first | done | rfl | (simp only [List.length_drop, List.length_take]; rfl)) ?_; (with_reducible refine (impl_copyGather.calls a0_0 a0_1 _ _ l0_2 t269 t270 t271 _ ?side1 ?side2 A104.out).mono ?_); (case side1 => repeat (first | exact (Kd.C_below HR0_2.out HB.out) | (with_reducible first | apply cA_ | apply cN_ | apply cD_))); (case side2 => exact HC0_2.out); rintro e w113 ⟨v272, rfl, ho0, hb⟩; refine ⟨_, rfl, ?_⟩; have n0_ := As_ (Kd.R_elder' (by (with_reducible repeat (first | apply rA_ | apply rN_ | apply rD_)); exact HO_256002.out) (Kd.R_base ho0) hb); have HO273 := As_ (Kd.R_lower (Kd.R_new' ho0 (Kd.R_lt (by (with_reducible repeat (first | apply rA_ | apply rN_ | apply rD_)); exact HO_256002.out))) (below_size (by repeat (first | (with_reducible first | exact HB.out | apply bA_ | apply bN_ | apply bD_ | refine bS_ ?_ GE239.out | refine bS_ ?_ GE240.out | refine bS_ ?_ GE241.out | refine bS_ ?_ GE255.out) | exact HB.out)))); replace BK239 := As_ (blk_below (g := gb239) (o := .cells #[.int .i64 a0_0, .bool a0_1, .slice A0_2 l0_2.length c0_2] 41 (0, 0)) (by (with_reducible repeat (first | apply kN_ | apply kD_ | apply kA_)); exact BK239.out) hb); replace BK240 := As_ (blk_below (g := gb240) (o := .cells #[.int .i64 a1_0, .int .i64 a1_1, .int .i64 a1_2, .slice A1_3 l1_3.length c1_3] 45 (0, 0)) (by (with_reducible repeat (first | apply kN_ | apply kD_ | apply kA_)); exact BK240.out) hb); replace BK241 := As_ (blk_below (g := gb241) (o := .cells #[.int .i64 x242000_42, .bool x242001_42, .slice none 0 0] 41 (0, 0)) (by (with_reducible repeat (first | apply kN_ | apply kD_ | apply kA_)); exact BK241.out) hb); replace BK255 := As_ (blk_below (g := gb255) (o := .cells #[.int .i64 x256000_42, .bool x256001_42, .slice Ao109 x256002_42.length co109] 41 (0, 0)) (by (with_reducible repeat (first | apply kN_ | apply kD_ | apply kA_)); exact BK255.out) hb); replace HB := As_ (below_step (by repeat (first | (with_reducible first | exact HB.out | apply bA_ | apply bN_ | apply bD_ | refine bS_ ?_ GE239.out | refine bS_ ?_ GE240.out | refine bS_ ?_ GE241.out | refine bS_ ?_ GE255.out) | exact HB.out)) hb); clear HO_256002; have HO_256002 := n0_; clear n0_; (try clear hb); (try clear hb2); (try clear hk); (try clear hi); (try clear ho0); have hnb114 := NB241_240.out; have hnc114 := NB240_241.out; obtain ⟨hcz115_0, hcz115_1, hcz115_2, hfz115_0, hfz115_1, hfz115_2⟩ := blk_all3 BK241.out; obtain ⟨Ao116, co116, eo116⟩ := Kd.R_slice HO273.out; subst eo116))
              refine bodyPost_ret (results_ctt rfl _ _ gb241 41 #[.int .i64 t269, .bool t270, .slice Ao116 t271.length co116] (0, 0) _ rfl (by (with_reducible repeat (first | apply kN_ | apply kD_ | apply kA_)); refine blk_put (cs := #[.int .i64 t269, .bool t270, .slice none 0 0]) ?_ 2 _ rfl; (with_reducible repeat (first | apply kN_ | apply kD_ | apply kA_)); refine blk_put (cs := #[.int .i64 t269, .bool x242001_42, .slice none 0 0]) ?_ 1 _ rfl; (with_reducible repeat (first | apply kN_ | apply kD_ | apply kA_)); refine blk_put (cs := #[.int .i64 x242000_42, .bool x242001_42, .slice none 0 0]) ?_ 0 _ rfl; (with_reducible repeat (first | apply kN_ | apply kD_ | apply kA_)); exact BK241.out) Try.underlying41 rfl (by kernel_rfl)) rfl ?_
              exact ⟨_, _, by first | rfl | (simp [errW_none, errW_some] <;> rfl) | (simp [*, errW_none, errW_some] <;> rfl), by (with_reducible repeat (first | apply rA_ | apply rN_ | apply rD_)); exact Kd.R_mono (Kd.R_far (p := ⟨gb241, 2, none⟩) (Kd.R_far (p := ⟨gb241, 1, none⟩) (Kd.R_far (p := ⟨gb241, 0, none⟩) (Kd.R_types HO273.out BK241.out (by decide)) (fun _ hk => hk.2) (.int .i64 t269)) (fun _ hk => hk.2) (.bool t270)) (fun _ hk => hk.2) (.slice Ao116 t271.length co116)) (fun _ hk => (by simp [Value.ownBlock])), by first | exact Kd.R_nil _ _ _ _ _ | exact Kd.N_nil _ _ _ _ _ | exact Kd.V_nil _ _ _ _ _ | exact Kd.Q_nil _ _ _ _ _ | exact Kd.S_nil _ _ _ _ _, by repeat (first | (with_reducible first | exact HB.out | apply bA_ | apply bN_ | apply bD_ | refine bS_ ?_ GE239.out | refine bS_ ?_ GE240.out | refine bS_ ?_ GE241.out | refine bS_ ?_ GE255.out) | exact HB.out)⟩
            · rw [if_neg c103] at H
              have c103b0 : decide (3000 < (x256002_42.length : Int)) = false := decide_eq_false c103
              have c103b1 : decide (3000 < x256002_42.length) = false := decide_eq_false (by omega)
              clear c103
              replace H := Option.bind_eq_some_iff.mp H
              obtain ⟨t274, A1170, H⟩ := H
              replace H : (if t274 = true then (some (0, false, ([] : List Int), x256002_42, 1)) else (some (x256000_42, x256001_42, x256002_42, ([] : List Int), 0))) = some (r1, r2, r3, r4, r5) := H
              have A117 := Aside0.mk A1170
              clear A1170
              by_cases c118 : t274 = true
              · subst c118
                have H1 : (some (0, false, ([] : List Int), x256002_42, 1)) = some (r1, r2, r3, r4, r5) := by rw [if_pos rfl] at H; exact H
                clear H
                have H := H1
                clear H1
                simp only [Option.some.injEq, Prod.mk.injEq] at H
                obtain ⟨rfl, rfl, rfl, rfl, rfl⟩ := H
                have hnb119 := NB255_239.out
                have hnc119 := NB239_255.out
                have hnb120 := NB255_240.out
                have hnc120 := NB240_255.out
                have hnb121 := NB255_241.out
                have hnc121 := NB241_255.out
                obtain ⟨hcz122_0, hcz122_1, hcz122_2, hfz122_0, hfz122_1, hfz122_2⟩ := blk_all3 BK255.out
                obtain ⟨Ao123, co123, eo123⟩ := Kd.R_slice HO_256002.out
                subst eo123
                have hnb124 := NB240_239.out
                have hnc124 := NB239_240.out
                have hnb125 := NB240_241.out
                have hnc125 := NB241_240.out
                obtain ⟨hcz126_0, hcz126_1, hcz126_2, hcz126_3, hfz126_0, hfz126_1, hfz126_2, hfz126_3⟩ := blk_all4 BK240.out
                try go_wp2_with (first | ((with_reducible refine gate_callee (f := 63) rfl ?_); refine goesL_ (some 63) rfl rfl Try.func63 (by kernel_rfl) rfl #[.agg #[.int .i64 a1_0, .int .i64 a1_1, .int .i64 a1_2, .slice A1_3 l1_3.length c1_3], .int .i64 4] rfl (by (try simp only [List.map_toArray, List.map_cons, List.map_nil]); first | done | rfl | (simp only [List.length_drop, List.length_take]; rfl)) ?_; (with_reducible refine (impl_Frame_has.calls a1_0 a1_1 a1_2 _ _ l1_3 4 true _ ?side1 ?side2 A117.out).mono ?_); (case side1 => repeat (first | exact (Kd.C_below HR1_3.out HB.out) | (with_reducible first | apply cA_ | apply cN_ | apply cD_))); (case side2 => exact HC1_3.out); rintro e w127 ⟨rfl, hb⟩; refine ⟨_, rfl, ?_⟩; replace HO_256002 := As_ (Kd.R_below (by (with_reducible repeat (first | apply rA_ | apply rN_ | apply rD_)); exact HO_256002.out) hb); replace BK239 := As_ (blk_below (g := gb239) (o := .cells #[.int .i64 a0_0, .bool a0_1, .slice A0_2 l0_2.length c0_2] 41 (0, 0)) (by (with_reducible repeat (first | apply kN_ | apply kD_ | apply kA_)); exact BK239.out) hb); replace BK240 := As_ (blk_below (g := gb240) (o := .cells #[.int .i64 a1_0, .int .i64 a1_1, .int .i64 a1_2, .slice A1_3 l1_3.length c1_3] 45 (0, 0)) (by (with_reducible repeat (first | apply kN_ | apply kD_ | apply kA_)); exact BK240.out) hb); replace BK241 := As_ (blk_below (g := gb241) (o := .cells #[.int .i64 x242000_42, .bool x242001_42, .slice none 0 0] 41 (0, 0)) (by (with_reducible repeat (first | apply kN_ | apply kD_ | apply kA_)); exact BK241.out) hb); replace BK255 := As_ (blk_below (g := gb255) (o := .cells #[.int .i64 x256000_42, .bool x256001_42, .slice Ao123 x256002_42.length co123] 41 (0, 0)) (by (with_reducible repeat (first | apply kN_ | apply kD_ | apply kA_)); exact BK255.out) hb); replace HB := As_ (below_step (by repeat (first | (with_reducible first | exact HB.out | apply bA_ | apply bN_ | apply bD_ | refine bS_ ?_ GE239.out | refine bS_ ?_ GE240.out | refine bS_ ?_ GE241.out | refine bS_ ?_ GE255.out) | exact HB.out)) hb); (try clear hb); (try clear hb2); (try clear hk); (try clear hi)))
                replace HO_256002 := As_ (Kd.R_drew HO_256002.out)
                replace BK239 := As_ (blk_drew BK239.out)
                replace BK240 := As_ (blk_drew BK240.out)
                replace BK241 := As_ (blk_drew BK241.out)
                replace BK255 := As_ (blk_drew BK255.out)
                replace HB := As_ (below_drew1 HB.out)
                refine start_ (n := 6) (S := fun w' => w'.cell? ⟨gb255, 0, none⟩ = some (.int .i64 x256000_42) ∧ w'.cell? ⟨gb255, 1, none⟩ = some (.bool x256001_42) ∧ w'.cell? ⟨gb255, 2, none⟩ = some (.slice Ao123 x256002_42.length co123)) (ds := []) #[false, false, false, false, false, false] (by kernel_rfl) rfl rfl ⟨(blk_cell BK255.out 0).trans rfl, (blk_cell BK255.out 1).trans rfl, (blk_cell BK255.out 2).trans rfl⟩ (fun hHeld => ?_)
                generalize w127.drew = w128 at HO_256002 BK239 BK240 BK241 BK255 HB hHeld ⊢
                refine pure_ (i := 0) (N := some 64) (v := ?_) (a' := ?_) #[true, false, false, false, false, false] rfl rfl (by kernel_rfl) (fun _ _ _ h => h) (Or.inl ⟨by rfl, ?_⟩) ?_ ?_
                rotate_left
                · intro w'
                  go_simp
                  with_reducible rfl
                rotate_left
                · simp only [Act.put, List.setIfInBounds_toArray, List.set_cons_zero, List.set_cons_succ, i64_w, i32_w]
                  rfl
                refine pure_ (i := 1) (N := some 65) (v := ?_) (a' := ?_) #[true, true, false, false, false, false] rfl rfl (by kernel_rfl) (fun _ _ _ h => h) (Or.inl ⟨by rfl, ?_⟩) ?_ ?_
                rotate_left
                · intro w'
                  go_simp
                  with_reducible rfl
                rotate_left
                · simp only [Act.put, List.setIfInBounds_toArray, List.set_cons_zero, List.set_cons_succ, i64_w, i32_w]
                  rfl
                refine take_ (i := 2) (N := some 66) (v := ?_) (a' := ?_) #[true, true, true, false, false, false] rfl rfl (by kernel_rfl) (fun _ _ _ h => h) (Or.inl ⟨by rfl, ?_⟩) hHeld ?_ ?_
                rotate_left
                · rintro w' ⟨s0, s1, s2⟩
                  go_simp
                  with_reducible rfl
                rotate_left
                · simp only [Act.put, List.setIfInBounds_toArray, List.set_cons_zero, List.set_cons_succ, i64_w, i32_w]
                  rfl
                refine one_ (i := 3) (N := none) #[true, true, true, true, false, false] rfl rfl (by kernel_rfl) (by decide) (fun K hK => ?_)
                have hs129 : w128.cell? ⟨gb241, 0, none⟩ = some (.int .i64 x242000_42) := (blk_cell BK241.out 0).trans rfl
                have hfs129 := blk_frozen BK241.out 0
                have hns129_0 := NB239_241.out
                have hns129_1 := NB240_241.out
                have hns129_3 := NB255_241.out
                have hms129_0 := NB241_239.out
                have hms129_1 := NB241_240.out
                have hms129_3 := NB241_255.out
                have hs130 : w128.cell? ⟨gb241, 1, none⟩ = some (.bool x242001_42) := (blk_cell BK241.out 1).trans rfl
                have hfs130 := blk_frozen BK241.out 1
                have hns130_0 := NB239_241.out
                have hns130_1 := NB240_241.out
                have hns130_3 := NB255_241.out
                have hms130_0 := NB241_239.out
                have hms130_1 := NB241_240.out
                have hms130_3 := NB241_255.out
                have hs131 : w128.cell? ⟨gb241, 2, none⟩ = some (.slice none 0 0) := (blk_cell BK241.out 2).trans rfl
                have hfs131 := blk_frozen BK241.out 2
                have hns131_0 := NB239_241.out
                have hns131_1 := NB240_241.out
                have hns131_3 := NB255_241.out
                have hms131_0 := NB241_239.out
                have hms131_1 := NB241_240.out
                have hms131_3 := NB241_255.out
                refine skip_ (w1 := ?_) (by rfl) rfl ?_ ?_
                rotate_left
                · go_simp
                  rfl
                refine hK.out _ _ ⟨((cell_far (p := ⟨gb241, _, none⟩) NB255_241.out _).trans (((cell_far (p := ⟨gb241, _, none⟩) NB255_241.out _).trans (((cell_far (p := ⟨gb241, _, none⟩) NB255_241.out _).trans (hHeld.1)))))), ((cell_far (p := ⟨gb241, _, none⟩) NB255_241.out _).trans (((cell_far (p := ⟨gb241, _, none⟩) NB255_241.out _).trans (((cell_far (p := ⟨gb241, _, none⟩) NB255_241.out _).trans (hHeld.2.1)))))), ((cell_far (p := ⟨gb241, _, none⟩) NB255_241.out _).trans (((cell_far (p := ⟨gb241, _, none⟩) NB255_241.out _).trans (((cell_far (p := ⟨gb241, _, none⟩) NB255_241.out _).trans (hHeld.2.2))))))⟩ (fun hHeld => ?_)
                clear hK K
                refine pure_ (i := 4) (N := some 5) (v := ?_) (a' := ?_) #[true, true, true, true, true, false] rfl rfl (by kernel_rfl) (fun _ _ _ h => h) (Or.inl ⟨by rfl, ?_⟩) ?_ ?_
                rotate_left
                · intro w'
                  go_simp
                  with_reducible rfl
                rotate_left
                · simp only [Act.put, List.setIfInBounds_toArray, List.set_cons_zero, List.set_cons_succ, i64_w, i32_w]
                  rfl
                refine pure_ (i := 5) (N := some 6) (v := ?_) (a' := ?_) #[true, true, true, true, true, true] rfl rfl (by kernel_rfl) (fun _ _ _ h => h) (Or.inl ⟨by rfl, ?_⟩) ?_ ?_
                rotate_left
                · intro w'
                  go_simp
                  with_reducible rfl
                rotate_left
                · simp only [Act.put, List.setIfInBounds_toArray, List.set_cons_zero, List.set_cons_succ, i64_w, i32_w]
                  rfl
                refine done_ (by kernel_rfl) ?_
                try go_wp2
                refine bodyPost_ret (results_ctt rfl _ _ gb241 41 #[.int .i64 0, .bool false, .slice none 0 0] (0, 0) _ rfl (by (with_reducible repeat (first | apply kN_ | apply kD_ | apply kA_)); refine blk_put (cs := #[.int .i64 0, .bool false, .slice none 0 0]) ?_ 2 _ rfl; (with_reducible repeat (first | apply kN_ | apply kD_ | apply kA_)); refine blk_put (cs := #[.int .i64 0, .bool x242001_42, .slice none 0 0]) ?_ 1 _ rfl; (with_reducible repeat (first | apply kN_ | apply kD_ | apply kA_)); refine blk_put (cs := #[.int .i64 x242000_42, .bool x242001_42, .slice none 0 0]) ?_ 0 _ rfl; (with_reducible repeat (first | apply kN_ | apply kD_ | apply kA_)); exact BK241.out) Try.underlying41 rfl (by kernel_rfl)) rfl ?_
                exact ⟨_, _, by first | rfl | (simp [errW_none, errW_some] <;> rfl) | (simp [*, errW_none, errW_some] <;> rfl), by first | exact Kd.R_nil _ _ _ _ _ | exact Kd.N_nil _ _ _ _ _ | exact Kd.V_nil _ _ _ _ _ | exact Kd.Q_nil _ _ _ _ _ | exact Kd.S_nil _ _ _ _ _, by (with_reducible repeat (first | apply rA_ | apply rN_ | apply rD_)); exact Kd.R_mono (Kd.R_far (p := ⟨gb241, 2, none⟩) (Kd.R_far (p := ⟨gb241, 1, none⟩) (Kd.R_far (p := ⟨gb241, 0, none⟩) (Kd.R_types HO_256002.out BK241.out (by decide)) (fun _ hk => hk.2) (.int .i64 0)) (fun _ hk => hk.2) (.bool false)) (fun _ hk => hk.2) (.slice none 0 0)) (fun _ hk => (by simp [Value.ownBlock])), by repeat (first | (with_reducible first | exact HB.out | apply bA_ | apply bN_ | apply bD_ | refine bS_ ?_ GE239.out | refine bS_ ?_ GE240.out | refine bS_ ?_ GE241.out | refine bS_ ?_ GE255.out) | exact HB.out)⟩
              · replace c118 := Bool.eq_false_iff.mpr c118
                subst c118
                have H1 : (some (x256000_42, x256001_42, x256002_42, ([] : List Int), 0)) = some (r1, r2, r3, r4, r5) := by rw [if_neg (show ¬ (false = true) by decide)] at H; exact H
                clear H
                have H := H1
                clear H1
                simp only [Option.some.injEq, Prod.mk.injEq] at H
                obtain ⟨rfl, rfl, rfl, rfl, rfl⟩ := H
                have hnb132 := NB255_239.out
                have hnc132 := NB239_255.out
                have hnb133 := NB255_240.out
                have hnc133 := NB240_255.out
                have hnb134 := NB255_241.out
                have hnc134 := NB241_255.out
                obtain ⟨hcz135_0, hcz135_1, hcz135_2, hfz135_0, hfz135_1, hfz135_2⟩ := blk_all3 BK255.out
                obtain ⟨Ao136, co136, eo136⟩ := Kd.R_slice HO_256002.out
                subst eo136
                have hnb137 := NB240_239.out
                have hnc137 := NB239_240.out
                have hnb138 := NB240_241.out
                have hnc138 := NB241_240.out
                obtain ⟨hcz139_0, hcz139_1, hcz139_2, hcz139_3, hfz139_0, hfz139_1, hfz139_2, hfz139_3⟩ := blk_all4 BK240.out
                go_wp2_with (first | ((with_reducible refine gate_callee (f := 63) rfl ?_); refine goesL_ (some 63) rfl rfl Try.func63 (by kernel_rfl) rfl #[.agg #[.int .i64 a1_0, .int .i64 a1_1, .int .i64 a1_2, .slice A1_3 l1_3.length c1_3], .int .i64 4] rfl (by (try simp only [List.map_toArray, List.map_cons, List.map_nil]); first | done | rfl | (simp only [List.length_drop, List.length_take]; rfl)) ?_; (with_reducible refine (impl_Frame_has.calls a1_0 a1_1 a1_2 _ _ l1_3 4 false _ ?side1 ?side2 A117.out).mono ?_); (case side1 => repeat (first | exact (Kd.C_below HR1_3.out HB.out) | (with_reducible first | apply cA_ | apply cN_ | apply cD_))); (case side2 => exact HC1_3.out); rintro e w140 ⟨rfl, hb⟩; refine ⟨_, rfl, ?_⟩; replace HO_256002 := As_ (Kd.R_below (by (with_reducible repeat (first | apply rA_ | apply rN_ | apply rD_)); exact HO_256002.out) hb); replace BK239 := As_ (blk_below (g := gb239) (o := .cells #[.int .i64 a0_0, .bool a0_1, .slice A0_2 l0_2.length c0_2] 41 (0, 0)) (by (with_reducible repeat (first | apply kN_ | apply kD_ | apply kA_)); exact BK239.out) hb); replace BK240 := As_ (blk_below (g := gb240) (o := .cells #[.int .i64 a1_0, .int .i64 a1_1, .int .i64 a1_2, .slice A1_3 l1_3.length c1_3] 45 (0, 0)) (by (with_reducible repeat (first | apply kN_ | apply kD_ | apply kA_)); exact BK240.out) hb); replace BK241 := As_ (blk_below (g := gb241) (o := .cells #[.int .i64 x242000_42, .bool x242001_42, .slice none 0 0] 41 (0, 0)) (by (with_reducible repeat (first | apply kN_ | apply kD_ | apply kA_)); exact BK241.out) hb); replace BK255 := As_ (blk_below (g := gb255) (o := .cells #[.int .i64 x256000_42, .bool x256001_42, .slice Ao136 x256002_42.length co136] 41 (0, 0)) (by (with_reducible repeat (first | apply kN_ | apply kD_ | apply kA_)); exact BK255.out) hb); replace HB := As_ (below_step (by repeat (first | (with_reducible first | exact HB.out | apply bA_ | apply bN_ | apply bD_ | refine bS_ ?_ GE239.out | refine bS_ ?_ GE240.out | refine bS_ ?_ GE241.out | refine bS_ ?_ GE255.out) | exact HB.out)) hb); (try clear hb); (try clear hb2); (try clear hk); (try clear hi); obtain ⟨hcz141_0, hcz141_1, hcz141_2, hfz141_0, hfz141_1, hfz141_2⟩ := blk_all3 BK255.out; have hnb142 := NB241_239.out; have hnc142 := NB239_241.out; obtain ⟨hcz143_0, hcz143_1, hcz143_2, hfz143_0, hfz143_1, hfz143_2⟩ := blk_all3 BK241.out))
                refine bodyPost_ret (results_ctt rfl _ _ gb241 41 #[.int .i64 x256000_42, .bool x256001_42, .slice Ao136 x256002_42.length co136] (0, 0) _ rfl (by (with_reducible repeat (first | apply kN_ | apply kD_ | apply kA_)); refine blk_put (cs := #[.int .i64 x256000_42, .bool x256001_42, .slice none 0 0]) ?_ 2 _ rfl; (with_reducible repeat (first | apply kN_ | apply kD_ | apply kA_)); refine blk_put (cs := #[.int .i64 x256000_42, .bool x242001_42, .slice none 0 0]) ?_ 1 _ rfl; (with_reducible repeat (first | apply kN_ | apply kD_ | apply kA_)); refine blk_put (cs := #[.int .i64 x242000_42, .bool x242001_42, .slice none 0 0]) ?_ 0 _ rfl; (with_reducible repeat (first | apply kN_ | apply kD_ | apply kA_)); exact BK241.out) Try.underlying41 rfl (by kernel_rfl)) rfl ?_
                exact ⟨_, _, by first | rfl | (simp [errW_none, errW_some] <;> rfl) | (simp [*, errW_none, errW_some] <;> rfl), by (with_reducible repeat (first | apply rA_ | apply rN_ | apply rD_)); exact Kd.R_mono (Kd.R_far (p := ⟨gb241, 2, none⟩) (Kd.R_far (p := ⟨gb241, 1, none⟩) (Kd.R_far (p := ⟨gb241, 0, none⟩) (Kd.R_types HO_256002.out BK241.out (by decide)) (fun _ hk => hk.2) (.int .i64 x256000_42)) (fun _ hk => hk.2) (.bool x256001_42)) (fun _ hk => hk.2) (.slice Ao136 x256002_42.length co136)) (fun _ hk => (by simp [Value.ownBlock])), by first | exact Kd.R_nil _ _ _ _ _ | exact Kd.N_nil _ _ _ _ _ | exact Kd.V_nil _ _ _ _ _ | exact Kd.Q_nil _ _ _ _ _ | exact Kd.S_nil _ _ _ _ _, by repeat (first | (with_reducible first | exact HB.out | apply bA_ | apply bN_ | apply bD_ | refine bS_ ?_ GE239.out | refine bS_ ?_ GE240.out | refine bS_ ?_ GE241.out | refine bS_ ?_ GE255.out) | exact HB.out)⟩

end Go.Proofs.Ytjbecmaibifmlaa.QFnGathered
