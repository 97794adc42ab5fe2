/- Contracts of functions of the translation, each with its pure function; printed by a program of this session (wip/pr.py) over the kit's print; no condition of its own. -/
import Derived.Test.YtejnagdmfooemaaQFnSpentx0
import Derived.Test.YtejnagdmfooemaaQFnSpentx2
import Derived.Test.YtejnagdmfooemaaQFnSpentx3
namespace Go.Proofs.Ytejnagdmfooemaa.QFnSpent
open Go.RowKit Go.Proofs.YtejnagdmfooemaaW.PrintWords Go.Proofs.YtejnagdmfooemaaW.PrintLast Go.Proofs.YtejnagdmfooemaaW.PrintMore
attribute [local go_sem] max2_int min2_int max_two min_two max_three min_three max_four min_four   -- for this text's walks alone
set_option linter.unusedVariables false
set_option linter.unusedSimpArgs false

/-! ### spec_Grant: function 28 -/
def spec_Grant.j0 : Nat → Int → Int → Int → Bool → Int → Int → List (S48) → Int → Int → List (S48) → Option (Int × Int × (List (S48)) × Bool)
  | 0, _, _, _, _, _, _, _, _, _, _ => none
  | k + 1, x1, x2, x9, x25, x250000, x250001, x250002, x257000, x257001, x257002 => if x25 = true then (some (x257000, x257001, x257002, false)) else (if x1 = 0 then ((spec_l10Ends.f k x250000 x250001 x250002 (wrap64 (x257000 + x2)) x257001 x257002 true).bind fun bt259 => (some (bt259.1, bt259.2.1, bt259.2.2.1, bt259.2.2.2))) else (if 0 ≤ x9 then (if x9 < (x257002.length : Int) then ((spec_l10Ends.f k x250000 x250001 x250002 x257000 x257001 (x257002.set (x9 : Int).toNat (⟨(rd_T48 x257002 x9).f0, wrap64 (((rd_T48 x257002 x9).f1) + x2)⟩ : S48)) true).bind fun bt267 => (some (bt267.1, bt267.2.1, bt267.2.2.1, bt267.2.2.2))) else (none)) else (none)))
def spec_Grant.f (k : Nat) (a0_0 : Int) (a0_1 : Int) (l0_2 : List (S48)) (a1 : Int) (a2 : Int) : Option (Int × Int × (List (S48)) × Bool) := (spec_l10Copy.f a0_0 a0_1 l0_2).bind fun bt251 => ((spec_l10At.f k a0_0 a0_1 l0_2 a1).bind fun t257 => ((spec_l1In.f a2 1 2147483647).bind fun t258 => (if t258 = true then (if a1 = 0 then (spec_Grant.j0 k a1 a2 t257 false a0_0 a0_1 l0_2 bt251.1 bt251.2.1 bt251.2.2) else (spec_Grant.j0 k a1 a2 t257 (decide (t257 < 0)) a0_0 a0_1 l0_2 bt251.1 bt251.2.1 bt251.2.2)) else (spec_Grant.j0 k a1 a2 t257 true a0_0 a0_1 l0_2 bt251.1 bt251.2.1 bt251.2.2))))
theorem spec_Grant.mono_l : ∀ k, (∀ y0 y1 y2 y3 y4 y5 y6 y7 y8 y9, LeO (spec_Grant.j0 k y0 y1 y2 y3 y4 y5 y6 y7 y8 y9) (spec_Grant.j0 (k + 1) y0 y1 y2 y3 y4 y5 y6 y7 y8 y9))
  | 0 => fun _ _ _ _ _ _ _ _ _ _ r h => by simp [spec_Grant.j0] at h
  | k + 1 => by
    have ih0 := spec_Grant.mono_l k
    · intro y0 y1 y2 y3 y4 y5 y6 y7 y8 y9
      unfold spec_Grant.j0
      repeat' first
      | (with_reducible exact ih0 _ _ _ _ _ _ _ _ _ _)
      | (with_reducible exact spec_l10At.mono _ _ _ _ _)
      | (with_reducible exact spec_l10Ends.mono _ _ _ _ _ _ _ _)
      | (with_reducible exact LeO.refl _)
      | (with_reducible exact LeO.none _)
      | (with_reducible refine LeO.ite ?_ ?_)
      | (with_reducible refine LeO.bind ?_ (fun _ => ?_))
      | exact ih0 _ _ _ _ _ _ _ _ _ _
      | exact spec_l10At.mono _ _ _ _ _
      | exact spec_l10Ends.mono _ _ _ _ _ _ _ _
      | exact LeO.none _
      | refine LeO.ite ?_ ?_
      | refine LeO.bind ?_ (fun _ => ?_)
theorem spec_Grant.mono : ∀ a0 a1 a2 a3 a4 k, LeO (spec_Grant.f k a0 a1 a2 a3 a4) (spec_Grant.f (k + 1) a0 a1 a2 a3 a4) := by
  intro a0 a1 a2 a3 a4 k
  have ih0 := spec_Grant.mono_l k
  unfold spec_Grant.f
  repeat' first
      | (with_reducible exact ih0 _ _ _ _ _ _ _ _ _ _)
      | (with_reducible exact spec_l10At.mono _ _ _ _ _)
      | (with_reducible exact spec_l10Ends.mono _ _ _ _ _ _ _ _)
      | (with_reducible exact LeO.refl _)
      | (with_reducible exact LeO.none _)
      | (with_reducible refine LeO.ite ?_ ?_)
      | (with_reducible refine LeO.bind ?_ (fun _ => ?_))
      | exact ih0 _ _ _ _ _ _ _ _ _ _
      | exact spec_l10At.mono _ _ _ _ _
      | exact spec_l10Ends.mono _ _ _ _ _ _ _ _
      | exact LeO.none _
      | refine LeO.ite ?_ ?_
      | refine LeO.bind ?_ (fun _ => ?_)
def spec_Grant.T7 : Bool × List (List Nat × List Nat) := (true, [([], []), ([0], [0]), ([], []), ([], []), ([3], [3]), ([], []), ([4, 5], [4, 5]), ([6], [6]), ([7], [7]), ([], []), ([8, 9], [8, 9]), ([1, 2, 0, 1, 2, 3, 4, 5, 6, 7, 8, 9, 10], [1, 2]), ([11, 0, 1, 2, 3, 4, 5, 6, 7, 8, 9, 10], [11]), ([12, 10, 0, 1, 2, 3, 4, 5, 6, 7, 8, 9, 10], [10, 12])])
def spec_Grant.B7 : List Nat := [0, 1, 0, 0, 8, 0, 56, 120, 248, 0, 1016, 2047, 4095, 8191]
theorem spec_Grant.tab7 : rtab .any (opsOf Try.f28 7) = spec_Grant.T7 := by kernel_rfl
theorem spec_Grant.bits7 : waitsOk spec_Grant.T7.2 spec_Grant.B7 = true := by kernel_rfl
set_option maxHeartbeats 8000000 in
set_option maxRecDepth 100000 in
theorem spec_Grant.calls (k : Nat) (a0_0 : Int) (a0_1 : Int) (A0_2 : Option Addr) (c0_2 : Nat) (l0_2 : List (S48)) (a1 : Int) (a2 : Int) (r1 : Int) (r2 : Int) (r3 : List (S48)) (r4 : Bool) (w : World) (hr0_2 : Kd.C k48 w A0_2 l0_2.length l0_2) (hc0_2 : l0_2.length ≤ c0_2) (h : spec_Grant.f k a0_0 a0_1 l0_2 a1 a2 = some (r1, r2, r3, r4)) :
    Calls Try.prog 28 #[.agg #[.int .i64 a0_0, .int .i64 a0_1, .slice A0_2 l0_2.length c0_2], .int .i64 a1, .int .i64 a2] w fun e w' => ∃ v2_ : Value, e = .returned (.tuple #[.agg #[.int .i64 r1, .int .i64 r2, v2_], .bool r4]) ∧ Kd.R k48 48 w' w.heap.size (fun _ => True) v2_ r3 ∧ Below w.heap.size w w' := by
  have hu24 := Try.underlying24
  have HR0_2 := Aside0.mk hr0_2
  have HC0_2 := Aside0.mk hc0_2
  clear hr0_2 hc0_2
  have HB := As_ (Below.refl w.heap.size w)
  have H : ((spec_l10Copy.f a0_0 a0_1 l0_2).bind fun bt251 => ((spec_l10At.f k a0_0 a0_1 l0_2 a1).bind fun t257 => ((spec_l1In.f a2 1 2147483647).bind fun t258 => (if t258 = true then (if a1 = 0 then (spec_Grant.j0 k a1 a2 t257 false a0_0 a0_1 l0_2 bt251.1 bt251.2.1 bt251.2.2) else (spec_Grant.j0 k a1 a2 t257 (decide (t257 < 0)) a0_0 a0_1 l0_2 bt251.1 bt251.2.1 bt251.2.2)) else (spec_Grant.j0 k a1 a2 t257 true a0_0 a0_1 l0_2 bt251.1 bt251.2.1 bt251.2.2))))) = some (r1, r2, r3, r4) := h
  clear h
  replace H := Option.bind_eq_some_iff.mp H
  obtain ⟨⟨t251, t252, t253⟩, A40, H⟩ := H
  replace H : ((spec_l10At.f k a0_0 a0_1 l0_2 a1).bind fun t257 => ((spec_l1In.f a2 1 2147483647).bind fun t258 => (if t258 = true then (if a1 = 0 then (spec_Grant.j0 k a1 a2 t257 false a0_0 a0_1 l0_2 t251 t252 t253) else (spec_Grant.j0 k a1 a2 t257 (decide (t257 < 0)) a0_0 a0_1 l0_2 t251 t252 t253)) else (spec_Grant.j0 k a1 a2 t257 true a0_0 a0_1 l0_2 t251 t252 t253)))) = some (r1, r2, r3, r4) := H
  have A4 := Aside0.mk A40
  clear A40
  replace H := Option.bind_eq_some_iff.mp H
  obtain ⟨t257, A50, H⟩ := H
  replace H : ((spec_l1In.f a2 1 2147483647).bind fun t258 => (if t258 = true then (if a1 = 0 then (spec_Grant.j0 k a1 a2 t257 false a0_0 a0_1 l0_2 t251 t252 t253) else (spec_Grant.j0 k a1 a2 t257 (decide (t257 < 0)) a0_0 a0_1 l0_2 t251 t252 t253)) else (spec_Grant.j0 k a1 a2 t257 true a0_0 a0_1 l0_2 t251 t252 t253))) = some (r1, r2, r3, r4) := H
  have A5 := Aside0.mk A50
  clear A50
  have HC6 := Aside0.mk H
  clear H
  go_enter Try.func28, Try.ntmps28
  go_upto_region 3 with (first | ((with_reducible refine gate_dst (N := 3) rfl ?_); refine box_event ?hg (N := 3) ?hd (cs := #[.int .i64 a0_0, .int .i64 a0_1, .slice A0_2 l0_2.length c0_2]) (t := 24) ?hr ?_; (case hd => rfl); (case hg => rfl); (case hr => first | (go_simp; done) | (go_simp; rfl)); intro gb249 hg w7 hbox hb; have n0_ := As_ (below_step (by repeat (first | (with_reducible first | exact HB.out | apply bA_ | apply bN_ | apply bD_) | exact HB.out)) hb); have n1_ := As_ (hbox); have n2_ := As_ ((by rw [hg]; exact (below_size (by repeat (first | (with_reducible first | exact HB.out | apply bA_ | apply bN_ | apply bD_) | exact HB.out))) : w.heap.size ≤ gb249)); have n3_ := As_ ((by rw [hg]; exact (below_size (by repeat (first | (with_reducible first | exact HB.out | apply bA_ | apply bN_ | apply bD_) | exact HB.out))) : w.heap.size ≤ gb249)); clear HB; have HB := n0_; have BK249 := n1_; have GW249 := n2_; have GE249 := n3_; clear n0_ n1_ n2_ n3_ hb hbox hg) | ((with_reducible refine gate_dst (N := 6) rfl ?_); refine box_event ?hg (N := 6) ?hd (cs := #[.int .i64 0, .int .i64 0, .slice none 0 0]) (t := 24) ?hr ?_; (case hd => rfl); (case hg => rfl); (case hr => first | (go_simp; done) | (go_simp; rfl)); intro gb250 hg w8 hbox hb; have n0_ := As_ (blk_below (g := gb249) (o := .cells #[.int .i64 a0_0, .int .i64 a0_1, .slice A0_2 l0_2.length c0_2] 24 (0, 0)) (by (with_reducible repeat (first | apply kN_ | apply kD_ | apply kA_)); exact BK249.out) hb); have n1_ := As_ (below_step (by repeat (first | (with_reducible first | exact HB.out | apply bA_ | apply bN_ | apply bD_ | refine bS_ ?_ GE249.out) | exact HB.out)) hb); have n2_ := As_ (hbox); have n3_ := As_ ((by rw [hg]; exact (below_size (by repeat (first | (with_reducible first | exact HB.out | apply bA_ | apply bN_ | apply bD_ | refine bS_ ?_ GE249.out) | exact HB.out))) : w.heap.size ≤ gb250)); have n4_ := As_ ((by rw [hg]; exact (below_size (by repeat (first | (with_reducible first | exact HB.out | apply bA_ | apply bN_ | apply bD_ | refine bS_ ?_ GE249.out) | exact HB.out))) : w.heap.size ≤ gb250)); have n5_ := As_ ((by rw [hg]; exact Nat.ne_of_lt (blk_lt (g := gb249) (o := .cells #[.int .i64 a0_0, .int .i64 a0_1, .slice A0_2 l0_2.length c0_2] 24 (0, 0)) (by (with_reducible repeat (first | apply kN_ | apply kD_ | apply kA_)); exact BK249.out)) : gb249 ≠ gb250)); have n6_ := As_ ((by rw [hg]; exact Nat.ne_of_gt (blk_lt (g := gb249) (o := .cells #[.int .i64 a0_0, .int .i64 a0_1, .slice A0_2 l0_2.length c0_2] 24 (0, 0)) (by (with_reducible repeat (first | apply kN_ | apply kD_ | apply kA_)); exact BK249.out)) : gb250 ≠ gb249)); clear BK249 HB; have BK249 := n0_; have HB := n1_; have BK250 := n2_; have GW250 := n3_; have GE250 := n4_; have NB249_250 := n5_; have NB250_249 := n6_; clear n0_ n1_ n2_ n3_ n4_ n5_ n6_ hb hbox hg; have hnb9 := NB249_250.out; have hnc9 := NB250_249.out; obtain ⟨hcz10_0, hcz10_1, hcz10_2, hfz10_0, hfz10_1, hfz10_2⟩ := blk_all3 BK249.out) | ((with_reducible refine gate_callee (f := 47) rfl ?_); refine goesL_ (some 11) rfl rfl Try.func47 (by kernel_rfl) rfl #[.agg #[.int .i64 a0_0, .int .i64 a0_1, .slice A0_2 l0_2.length c0_2]] rfl (by (try simp only [List.map_toArray, List.map_cons, List.map_nil]); first | done | rfl | (simp only [List.length_drop, List.length_take]; rfl)) ?_; (with_reducible refine (spec_l10Copy.calls a0_0 a0_1 _ _ l0_2 t251 t252 t253 _ ?side1 ?side2 A4.out).mono ?_); (case side1 => repeat (first | exact (Kd.C_below HR0_2.out HB.out) | (with_reducible first | apply cA_ | apply cN_ | apply cD_))); (case side2 => exact HC0_2.out); rintro e w11 ⟨v254, rfl, ho0, hb⟩; refine ⟨_, rfl, ?_⟩; have HO255 := As_ (Kd.R_lower ho0 (below_size (by repeat (first | (with_reducible first | exact HB.out | apply bA_ | apply bN_ | apply bD_ | refine bS_ ?_ GE249.out | refine bS_ ?_ GE250.out) | exact HB.out)))); replace BK249 := As_ (blk_below (g := gb249) (o := .cells #[.int .i64 a0_0, .int .i64 a0_1, .slice A0_2 l0_2.length c0_2] 24 (0, 0)) (by (with_reducible repeat (first | apply kN_ | apply kD_ | apply kA_)); exact BK249.out) hb); replace BK250 := As_ (blk_below (g := gb250) (o := .cells #[.int .i64 0, .int .i64 0, .slice none 0 0] 24 (0, 0)) (by (with_reducible repeat (first | apply kN_ | apply kD_ | apply kA_)); exact BK250.out) hb); replace HB := As_ (below_step (by repeat (first | (with_reducible first | exact HB.out | apply bA_ | apply bN_ | apply bD_ | refine bS_ ?_ GE249.out | refine bS_ ?_ GE250.out) | exact HB.out)) hb); (try clear hb); (try clear hb2); (try clear hk); (try clear hi); (try clear ho0)) | ((with_reducible refine gate_dst (N := 8) rfl ?_); refine box_event ?hg (N := 8) ?hd (cs := #[.int .i64 0, .int .i64 0, .slice none 0 0]) (t := 24) ?hr ?_; (case hd => rfl); (case hg => rfl); (case hr => first | (go_simp; done) | (go_simp; rfl)); intro gb256 hg w12 hbox hb; have n0_ := As_ (Kd.R_below (by (with_reducible repeat (first | apply rA_ | apply rN_ | apply rD_)); exact HO255.out) hb); have n1_ := As_ (blk_below (g := gb249) (o := .cells #[.int .i64 a0_0, .int .i64 a0_1, .slice A0_2 l0_2.length c0_2] 24 (0, 0)) (by (with_reducible repeat (first | apply kN_ | apply kD_ | apply kA_)); exact BK249.out) hb); have n2_ := As_ (blk_below (g := gb250) (o := .cells #[.int .i64 0, .int .i64 0, .slice none 0 0] 24 (0, 0)) (by (with_reducible repeat (first | apply kN_ | apply kD_ | apply kA_)); exact BK250.out) hb); have n3_ := As_ (below_step (by repeat (first | (with_reducible first | exact HB.out | apply bA_ | apply bN_ | apply bD_ | refine bS_ ?_ GE249.out | refine bS_ ?_ GE250.out) | exact HB.out)) hb); have n4_ := As_ (hbox); have n5_ := As_ ((by rw [hg]; exact (below_size (by repeat (first | (with_reducible first | exact HB.out | apply bA_ | apply bN_ | apply bD_ | refine bS_ ?_ GE249.out | refine bS_ ?_ GE250.out) | exact HB.out))) : w.heap.size ≤ gb256)); have n6_ := As_ ((by rw [hg]; exact (below_size (by repeat (first | (with_reducible first | exact HB.out | apply bA_ | apply bN_ | apply bD_ | refine bS_ ?_ GE249.out | refine bS_ ?_ GE250.out) | exact HB.out))) : w.heap.size ≤ gb256)); have n7_ := As_ ((by rw [hg]; exact Nat.ne_of_lt (blk_lt (g := gb249) (o := .cells #[.int .i64 a0_0, .int .i64 a0_1, .slice A0_2 l0_2.length c0_2] 24 (0, 0)) (by (with_reducible repeat (first | apply kN_ | apply kD_ | apply kA_)); exact BK249.out)) : gb249 ≠ gb256)); have n8_ := As_ ((by rw [hg]; exact Nat.ne_of_gt (blk_lt (g := gb249) (o := .cells #[.int .i64 a0_0, .int .i64 a0_1, .slice A0_2 l0_2.length c0_2] 24 (0, 0)) (by (with_reducible repeat (first | apply kN_ | apply kD_ | apply kA_)); exact BK249.out)) : gb256 ≠ gb249)); have n9_ := As_ ((by rw [hg]; exact Nat.ne_of_lt (blk_lt (g := gb250) (o := .cells #[.int .i64 0, .int .i64 0, .slice none 0 0] 24 (0, 0)) (by (with_reducible repeat (first | apply kN_ | apply kD_ | apply kA_)); exact BK250.out)) : gb250 ≠ gb256)); have n10_ := As_ ((by rw [hg]; exact Nat.ne_of_gt (blk_lt (g := gb250) (o := .cells #[.int .i64 0, .int .i64 0, .slice none 0 0] 24 (0, 0)) (by (with_reducible repeat (first | apply kN_ | apply kD_ | apply kA_)); exact BK250.out)) : gb256 ≠ gb250)); clear HO255 BK249 BK250 HB; have HO255 := n0_; have BK249 := n1_; have BK250 := n2_; have HB := n3_; have BK256 := n4_; have GW256 := n5_; have GE256 := n6_; have NB249_256 := n7_; have NB256_249 := n8_; have NB250_256 := n9_; have NB256_250 := n10_; clear n0_ n1_ n2_ n3_ n4_ n5_ n6_ n7_ n8_ n9_ n10_ hb hbox hg; have hnb13 := NB256_249.out; have hnc13 := NB249_256.out; have hnb14 := NB256_250.out; have hnc14 := NB250_256.out; obtain ⟨hcz15_0, hcz15_1, hcz15_2, hfz15_0, hfz15_1, hfz15_2⟩ := blk_all3 BK256.out; obtain ⟨Ao16, co16, eo16⟩ := Kd.R_slice HO255.out; subst eo16; obtain ⟨hcz17_0, hcz17_1, hcz17_2, hfz17_0, hfz17_1, hfz17_2⟩ := blk_all3 BK249.out) | ((with_reducible refine gate_callee (f := 46) rfl ?_); refine goesL_ (some 14) rfl rfl Try.func46 (by kernel_rfl) rfl #[.agg #[.int .i64 a0_0, .int .i64 a0_1, .slice A0_2 l0_2.length c0_2], .int .i64 a1] rfl (by (try simp only [List.map_toArray, List.map_cons, List.map_nil]); first | done | rfl | (simp only [List.length_drop, List.length_take]; rfl)) ?_; (with_reducible refine (spec_l10At.calls k a0_0 a0_1 _ _ l0_2 a1 t257 _ ?side1 ?side2 A5.out).mono ?_); (case side1 => exact Kd.C_below HR0_2.out (by repeat (first | (with_reducible first | exact HB.out | apply bA_ | apply bN_ | apply bD_ | refine bS_ ?_ GE249.out | refine bS_ ?_ GE250.out | refine bS_ ?_ GE256.out) | exact HB.out))); (case side2 => exact HC0_2.out); rintro e w18 ⟨rfl, hb⟩; refine ⟨_, rfl, ?_⟩; replace HO255 := As_ (Kd.R_below (by (with_reducible repeat (first | apply rA_ | apply rN_ | apply rD_)); exact (Kd.R_mono (Kd.R_far (p := ⟨gb256, 2, none⟩) (Kd.R_far (p := ⟨gb256, 1, none⟩) (Kd.R_far (p := ⟨gb256, 0, none⟩) (Kd.R_types HO255.out BK256.out (by decide)) (fun _ hk => hk.2) (.int .i64 t251)) (fun _ hk => hk.2) (.int .i64 t252)) (fun _ hk => hk.2) (.slice Ao16 t253.length co16)) (fun _ h_ => h_.1))) hb); replace BK249 := As_ (blk_below (g := gb249) (o := .cells #[.int .i64 a0_0, .int .i64 a0_1, .slice A0_2 l0_2.length c0_2] 24 (0, 0)) (by (with_reducible repeat (first | apply kN_ | apply kD_ | apply kA_)); refine blk_far ?_ NB249_256.out _; (with_reducible repeat (first | apply kN_ | apply kD_ | apply kA_)); refine blk_far ?_ NB249_256.out _; (with_reducible repeat (first | apply kN_ | apply kD_ | apply kA_)); refine blk_far ?_ NB249_256.out _; (with_reducible repeat (first | apply kN_ | apply kD_ | apply kA_)); exact BK249.out) hb); replace BK250 := As_ (blk_below (g := gb250) (o := .cells #[.int .i64 0, .int .i64 0, .slice none 0 0] 24 (0, 0)) (by (with_reducible repeat (first | apply kN_ | apply kD_ | apply kA_)); refine blk_far ?_ NB250_256.out _; (with_reducible repeat (first | apply kN_ | apply kD_ | apply kA_)); refine blk_far ?_ NB250_256.out _; (with_reducible repeat (first | apply kN_ | apply kD_ | apply kA_)); refine blk_far ?_ NB250_256.out _; (with_reducible repeat (first | apply kN_ | apply kD_ | apply kA_)); exact BK250.out) hb); replace BK256 := As_ (blk_below (g := gb256) (o := .cells #[.int .i64 t251, .int .i64 t252, .slice Ao16 t253.length co16] 24 (0, 0)) (by (with_reducible repeat (first | apply kN_ | apply kD_ | apply kA_)); refine blk_put (cs := #[.int .i64 t251, .int .i64 t252, .slice none 0 0]) ?_ 2 _ rfl; (with_reducible repeat (first | apply kN_ | apply kD_ | apply kA_)); refine blk_put (cs := #[.int .i64 t251, .int .i64 0, .slice none 0 0]) ?_ 1 _ rfl; (with_reducible repeat (first | apply kN_ | apply kD_ | apply kA_)); refine blk_put (cs := #[.int .i64 0, .int .i64 0, .slice none 0 0]) ?_ 0 _ rfl; (with_reducible repeat (first | apply kN_ | apply kD_ | apply kA_)); exact BK256.out) hb); replace HB := As_ (below_step (by repeat (first | (with_reducible first | exact HB.out | apply bA_ | apply bN_ | apply bD_ | refine bS_ ?_ GE249.out | refine bS_ ?_ GE250.out | refine bS_ ?_ GE256.out) | exact HB.out)) hb); (try clear hb); (try clear hb2); (try clear hk); (try clear hi)))
  (try simp only [Act.put, List.setIfInBounds_toArray, List.set_cons_zero, List.set_cons_succ])
  go_cut [25] (fun v25 wc => ∃ (kq : Nat) (x25_5 : Bool), v25 = .bool x25_5 ∧ Aside0 (spec_Grant.j0 kq a1 a2 t257 x25_5 a0_0 a0_1 l0_2 t251 t252 t253 = some (r1, r2, r3, r4)) ∧ Aside0 (kq ≤ k) ∧ Aside0 (Kd.R k48 48 wc w.heap.size (fun _ => True) (.slice Ao16 t253.length co16) t253) ∧ Aside0 (wc.heap[gb249]? = some (.cells #[.int .i64 a0_0, .int .i64 a0_1, (.slice A0_2 l0_2.length c0_2)] 24 (0, 0))) ∧ Aside0 (wc.heap[gb250]? = some (.cells #[.int .i64 0, .int .i64 0, (.slice none 0 0)] 24 (0, 0))) ∧ Aside0 (wc.heap[gb256]? = some (.cells #[.int .i64 t251, .int .i64 t252, (.slice Ao16 t253.length co16)] 24 (0, 0))) ∧ Aside0 (Below w.heap.size w wc))
  case first =>
    have H := HC6.out
    clear HC6
    replace H := Option.bind_eq_some_iff.mp H
    obtain ⟨t258, A190, H⟩ := H
    replace H : (if t258 = true then (if a1 = 0 then (spec_Grant.j0 k a1 a2 t257 false a0_0 a0_1 l0_2 t251 t252 t253) else (spec_Grant.j0 k a1 a2 t257 (decide (t257 < 0)) a0_0 a0_1 l0_2 t251 t252 t253)) else (spec_Grant.j0 k a1 a2 t257 true a0_0 a0_1 l0_2 t251 t252 t253)) = some (r1, r2, r3, r4) := H
    have A19 := Aside0.mk A190
    clear A190
    by_cases c20 : t258 = true
    · subst c20
      have H1 : (if a1 = 0 then (spec_Grant.j0 k a1 a2 t257 false a0_0 a0_1 l0_2 t251 t252 t253) else (spec_Grant.j0 k a1 a2 t257 (decide (t257 < 0)) a0_0 a0_1 l0_2 t251 t252 t253)) = some (r1, r2, r3, r4) := by rw [if_pos rfl] at H; exact H
      clear H
      have H := H1
      clear H1
      by_cases c21 : a1 = 0
      · rw [if_pos c21] at H
        have c21b0 : (a1 == 0) = true := beq_iff_eq.mpr c21
        have c21b1 : (a1 != 0) = false := bne_eq_false_iff_eq.mpr c21
        clear c21
        (first | rw [c21b0] | (simp only [i64_w, i32_w]; rw [c21b0]) | skip)
        have H' := Aside0.mk H
        clear H
        go_wp2_with (first | ((with_reducible refine gate_callee (f := 38) rfl ?_); refine goesL_ (some 16) rfl rfl Try.func38 (by kernel_rfl) rfl #[.int .i64 a2, .int .i64 1, .int .i64 2147483647] rfl (by (try simp only [List.map_toArray, List.map_cons, List.map_nil]); first | done | rfl | (simp only [List.length_drop, List.length_take]; rfl)) ?_; (with_reducible refine (spec_l1In.calls a2 1 2147483647 true _ A19.out).mono ?_); rintro e w' ⟨rfl, ⟨nd, rfl⟩⟩; refine ⟨_, rfl, ?_⟩))
        go_meet
        case rel => exact ⟨_, (false), (by first | rfl | (simp; done) | (simp [*]; done)), H', ⟨by first | omega | exact Nat.le_refl _⟩, ⟨by (with_reducible repeat (first | apply rA_ | apply rN_ | apply rD_)); exact HO255.out⟩, ⟨by (with_reducible repeat (first | apply kN_ | apply kD_ | apply kA_)); exact BK249.out⟩, ⟨by (with_reducible repeat (first | apply kN_ | apply kD_ | apply kA_)); exact BK250.out⟩, ⟨by (with_reducible repeat (first | apply kN_ | apply kD_ | apply kA_)); exact BK256.out⟩, ⟨by repeat (first | (with_reducible first | exact HB.out | apply bA_ | apply bN_ | apply bD_ | refine bS_ ?_ GE249.out | refine bS_ ?_ GE250.out | refine bS_ ?_ GE256.out) | exact HB.out)⟩⟩
      · rw [if_neg c21] at H
        have c21b0 : (a1 == 0) = false := beq_eq_false_iff_ne.mpr c21
        have c21b1 : (a1 != 0) = true := bne_iff_ne.mpr c21
        (first | rw [c21b0] | (simp only [i64_w, i32_w]; rw [c21b0]) | skip)
        have H' := Aside0.mk H
        clear H
        go_wp2_with (first | ((with_reducible refine gate_callee (f := 38) rfl ?_); refine goesL_ (some 16) rfl rfl Try.func38 (by kernel_rfl) rfl #[.int .i64 a2, .int .i64 1, .int .i64 2147483647] rfl (by (try simp only [List.map_toArray, List.map_cons, List.map_nil]); first | done | rfl | (simp only [List.length_drop, List.length_take]; rfl)) ?_; (with_reducible refine (spec_l1In.calls a2 1 2147483647 true _ A19.out).mono ?_); rintro e w' ⟨rfl, ⟨nd, rfl⟩⟩; refine ⟨_, rfl, ?_⟩))
        go_meet
        case rel => exact ⟨_, (decide (t257 < 0)), (by first | rfl | (simp; done) | (simp [*]; done)), H', ⟨by first | omega | exact Nat.le_refl _⟩, ⟨by (with_reducible repeat (first | apply rA_ | apply rN_ | apply rD_)); exact HO255.out⟩, ⟨by (with_reducible repeat (first | apply kN_ | apply kD_ | apply kA_)); exact BK249.out⟩, ⟨by (with_reducible repeat (first | apply kN_ | apply kD_ | apply kA_)); exact BK250.out⟩, ⟨by (with_reducible repeat (first | apply kN_ | apply kD_ | apply kA_)); exact BK256.out⟩, ⟨by repeat (first | (with_reducible first | exact HB.out | apply bA_ | apply bN_ | apply bD_ | refine bS_ ?_ GE249.out | refine bS_ ?_ GE250.out | refine bS_ ?_ GE256.out) | exact HB.out)⟩⟩
    · replace c20 := Bool.eq_false_iff.mpr c20
      subst c20
      have H1 : (spec_Grant.j0 k a1 a2 t257 true a0_0 a0_1 l0_2 t251 t252 t253) = some (r1, r2, r3, r4) := by rw [if_neg (show ¬ (false = true) by decide)] at H; exact H
      clear H
      have H := H1
      clear H1
      have H' := Aside0.mk H
      clear H
      go_wp2_with (first | ((with_reducible refine gate_callee (f := 38) rfl ?_); refine goesL_ (some 16) rfl rfl Try.func38 (by kernel_rfl) rfl #[.int .i64 a2, .int .i64 1, .int .i64 2147483647] rfl (by (try simp only [List.map_toArray, List.map_cons, List.map_nil]); first | done | rfl | (simp only [List.length_drop, List.length_take]; rfl)) ?_; (with_reducible refine (spec_l1In.calls a2 1 2147483647 false _ A19.out).mono ?_); rintro e w' ⟨rfl, ⟨nd, rfl⟩⟩; refine ⟨_, rfl, ?_⟩))
      go_meet
      case rel => exact ⟨_, (true), (by first | rfl | (simp; done) | (simp [*]; done)), H', ⟨by first | omega | exact Nat.le_refl _⟩, ⟨by (with_reducible repeat (first | apply rA_ | apply rN_ | apply rD_)); exact HO255.out⟩, ⟨by (with_reducible repeat (first | apply kN_ | apply kD_ | apply kA_)); exact BK249.out⟩, ⟨by (with_reducible repeat (first | apply kN_ | apply kD_ | apply kA_)); exact BK250.out⟩, ⟨by (with_reducible repeat (first | apply kN_ | apply kD_ | apply kA_)); exact BK256.out⟩, ⟨by repeat (first | (with_reducible first | exact HB.out | apply bA_ | apply bN_ | apply bD_ | refine bS_ ?_ GE249.out | refine bS_ ?_ GE250.out | refine bS_ ?_ GE256.out) | exact HB.out)⟩⟩
  case rest =>
    clear HC6
    try clear c1
    try clear c2
    try clear p2
    try clear c3
    try clear c4
    try clear c9
    try clear c13
    try clear c14
    try clear c20
    try clear c21
    try clear c21b0
    try clear c21b1
    try clear hcz10_0
    try clear hcz10_1
    try clear hcz10_2
    try clear hcz15_0
    try clear hcz15_1
    try clear hcz15_2
    try clear hcz17_0
    try clear hcz17_1
    try clear hcz17_2
    try clear hfz10_0
    try clear hfz10_1
    try clear hfz10_2
    try clear hfz15_0
    try clear hfz15_1
    try clear hfz15_2
    try clear hfz17_0
    try clear hfz17_1
    try clear hfz17_2
    obtain ⟨kq, x25_5, rfl, HA, HJ5, HO_257002, BK249, BK250, BK256, HB⟩ := hcut
    cases kq with
    | zero => exact absurd HA.out (by simp [spec_Grant.j0])
    | succ kj5 =>
      have H := HA.out
      clear HA
      simp only [spec_Grant.j0] at H
      by_cases c22 : x25_5 = true
      · subst c22
        have H1 : (some (t251, t252, t253, false)) = some (r1, r2, r3, r4) := by rw [if_pos rfl] at H; exact H
        clear H
        have H := H1
        clear H1
        simp only [Option.some.injEq, Prod.mk.injEq] at H
        obtain ⟨rfl, rfl, rfl, rfl⟩ := H
        have hnb23 := NB256_249.out
        have hnc23 := NB249_256.out
        have hnb24 := NB256_250.out
        have hnc24 := NB250_256.out
        obtain ⟨hcz25_0, hcz25_1, hcz25_2, hfz25_0, hfz25_1, hfz25_2⟩ := blk_all3 BK256.out
        have hnb26 := NB250_249.out
        have hnc26 := NB249_250.out
        obtain ⟨hcz27_0, hcz27_1, hcz27_2, hfz27_0, hfz27_1, hfz27_2⟩ := blk_all3 BK250.out
        go_wp2
        refine bodyPost_ret (results_ct rfl _ _ gb250 24 #[.int .i64 t251, .int .i64 t252, .slice Ao16 t253.length co16] (0, 0) _ rfl (by (with_reducible repeat (first | apply kN_ | apply kD_ | apply kA_)); refine blk_put (cs := #[.int .i64 t251, .int .i64 t252, .slice none 0 0]) ?_ 2 _ rfl; (with_reducible repeat (first | apply kN_ | apply kD_ | apply kA_)); refine blk_put (cs := #[.int .i64 t251, .int .i64 0, .slice none 0 0]) ?_ 1 _ rfl; (with_reducible repeat (first | apply kN_ | apply kD_ | apply kA_)); refine blk_put (cs := #[.int .i64 0, .int .i64 0, .slice none 0 0]) ?_ 0 _ rfl; (with_reducible repeat (first | apply kN_ | apply kD_ | apply kA_)); exact BK250.out) Try.underlying24 rfl (by kernel_rfl)) rfl ?_
        exact ⟨_, by first | rfl | (simp [errW_none, errW_some] <;> rfl) | (simp [*, errW_none, errW_some] <;> rfl), by (with_reducible repeat (first | apply rA_ | apply rN_ | apply rD_)); exact Kd.R_mono (Kd.R_far (p := ⟨gb250, 2, none⟩) (Kd.R_far (p := ⟨gb250, 1, none⟩) (Kd.R_far (p := ⟨gb250, 0, none⟩) (Kd.R_types HO_257002.out BK250.out (by decide)) (fun _ hk => hk.2) (.int .i64 t251)) (fun _ hk => hk.2) (.int .i64 t252)) (fun _ hk => hk.2) (.slice Ao16 t253.length co16)) (fun _ hk => trivial), by repeat (first | (with_reducible first | exact HB.out | apply bA_ | apply bN_ | apply bD_ | refine bS_ ?_ GE249.out | refine bS_ ?_ GE250.out | refine bS_ ?_ GE256.out) | exact HB.out)⟩
      · replace c22 := Bool.eq_false_iff.mpr c22
        subst c22
        have H1 : (if a1 = 0 then ((spec_l10Ends.f kj5 a0_0 a0_1 l0_2 (wrap64 (t251 + a2)) t252 t253 true).bind fun bt259 => (some (bt259.1, bt259.2.1, bt259.2.2.1, bt259.2.2.2))) else (if 0 ≤ t257 then (if t257 < (t253.length : Int) then ((spec_l10Ends.f kj5 a0_0 a0_1 l0_2 t251 t252 (t253.set (t257 : Int).toNat (⟨(rd_T48 t253 t257).f0, wrap64 (((rd_T48 t253 t257).f1) + a2)⟩ : S48)) true).bind fun bt267 => (some (bt267.1, bt267.2.1, bt267.2.2.1, bt267.2.2.2))) else (none)) else (none))) = some (r1, r2, r3, r4) := by rw [if_neg (show ¬ (false = true) by decide)] at H; exact H
        clear H
        have H := H1
        clear H1
        by_cases c28 : a1 = 0
        · rw [if_pos c28] at H
          have c28b0 : (a1 == 0) = true := beq_iff_eq.mpr c28
          have c28b1 : (a1 != 0) = false := bne_eq_false_iff_eq.mpr c28
          clear c28
          replace H := Option.bind_eq_some_iff.mp H
          obtain ⟨⟨t259, t260, t261, t264⟩, A290, H⟩ := H
          replace H : (some (t259, t260, t261, t264)) = some (r1, r2, r3, r4) := H
          have A29 := Aside0.mk A290
          clear A290
          simp only [Option.some.injEq, Prod.mk.injEq] at H
          obtain ⟨rfl, rfl, rfl, rfl⟩ := H
          have hnb30 := NB256_249.out
          have hnc30 := NB249_256.out
          have hnb31 := NB256_250.out
          have hnc31 := NB250_256.out
          obtain ⟨hcz32_0, hcz32_1, hcz32_2, hfz32_0, hfz32_1, hfz32_2⟩ := blk_all3 BK256.out
          go_wp2_with (first | ((with_reducible refine gate_store (t := 3) (p := 33) rfl ?_); refine store_event (t := 3) (p := 33) (v := ?vo_w33) (w1 := (wc.setCell ⟨gb256, 0, none⟩ (.int .i64 (wrap64 (t251 + a2))))) ?hg ?ho ?hn ?hr ?_; (case ho => rfl); (case hg => rfl); (case hn => rfl); (case hr => first | (go_simp; done) | (go_simp; rfl)); intro w33 hw; replace HO_257002 : Aside0 (Kd.R k48 48 w33 w.heap.size (fun _ => True) (.slice Ao16 t253.length co16) t253) := ⟨(by rw [hw]; exact (by (with_reducible repeat (first | apply rA_ | apply rN_ | apply rD_)); exact Kd.R_mono (Kd.R_far (p := ⟨gb256, 0, none⟩) (Kd.R_types HO_257002.out BK256.out (by decide)) (fun _ hk => hk.2) (.int .i64 (wrap64 (t251 + a2)))) (fun _ hk => trivial)))⟩; replace BK249 : Aside0 (w33.heap[gb249]? = some (.cells #[.int .i64 a0_0, .int .i64 a0_1, .slice A0_2 l0_2.length c0_2] 24 (0, 0))) := ⟨(by rw [hw]; exact (by (with_reducible repeat (first | apply kN_ | apply kD_ | apply kA_)); refine blk_far ?_ NB249_256.out _; (with_reducible repeat (first | apply kN_ | apply kD_ | apply kA_)); exact BK249.out))⟩; replace BK250 : Aside0 (w33.heap[gb250]? = some (.cells #[.int .i64 0, .int .i64 0, .slice none 0 0] 24 (0, 0))) := ⟨(by rw [hw]; exact (by (with_reducible repeat (first | apply kN_ | apply kD_ | apply kA_)); refine blk_far ?_ NB250_256.out _; (with_reducible repeat (first | apply kN_ | apply kD_ | apply kA_)); exact BK250.out))⟩; replace BK256 : Aside0 (w33.heap[gb256]? = some (.cells #[.int .i64 (wrap64 (t251 + a2)), .int .i64 t252, .slice Ao16 t253.length co16] 24 (0, 0))) := ⟨(by rw [hw]; exact (by (with_reducible repeat (first | apply kN_ | apply kD_ | apply kA_)); refine blk_put (cs := #[.int .i64 t251, .int .i64 t252, .slice Ao16 t253.length co16]) ?_ 0 _ rfl; (with_reducible repeat (first | apply kN_ | apply kD_ | apply kA_)); exact BK256.out))⟩; replace HB : Aside0 (Below w.heap.size w w33) := ⟨(by rw [hw]; exact (by repeat (first | (with_reducible first | exact HB.out | apply bA_ | apply bN_ | apply bD_ | refine bS_ ?_ GE249.out | refine bS_ ?_ GE250.out | refine bS_ ?_ GE256.out) | exact HB.out)))⟩; clear hw; have hnb34 := NB249_250.out; have hnc34 := NB250_249.out; obtain ⟨hcz35_0, hcz35_1, hcz35_2, hfz35_0, hfz35_1, hfz35_2⟩ := blk_all3 BK249.out; obtain ⟨hcz36_0, hcz36_1, hcz36_2, hfz36_0, hfz36_1, hfz36_2⟩ := blk_all3 BK256.out) | ((with_reducible refine gate_callee (f := 48) rfl ?_); refine goesL_ (some 49) rfl rfl Try.func48 (by kernel_rfl) rfl #[.agg #[.int .i64 a0_0, .int .i64 a0_1, .slice A0_2 l0_2.length c0_2], .agg #[.int .i64 (wrap64 (t251 + a2)), .int .i64 t252, .slice Ao16 t253.length co16], .bool true] rfl (by (try simp only [List.map_toArray, List.map_cons, List.map_nil]); first | done | rfl | (simp only [List.length_drop, List.length_take]; rfl)) ?_; (with_reducible refine (spec_l10Ends.calls kj5 a0_0 a0_1 _ _ l0_2 (wrap64 (t251 + a2)) t252 (fun k_ => some k_ = (.slice Ao16 t253.length co16 : Value).ownBlock) (.slice Ao16 t253.length co16) t253 true t259 t260 t261 t264 w _ ?side1 ?side2 ?side3 ?side4 A29.out).mono ?_); (case side1 => repeat (first | (with_reducible first | exact HB.out | apply bA_ | apply bN_ | apply bD_ | refine bS_ ?_ GE249.out | refine bS_ ?_ GE250.out | refine bS_ ?_ GE256.out) | exact HB.out)); (case side2 => exact Kd.C_kept_came k48_heap HR0_2.out (by repeat (first | (with_reducible first | exact HB.out | apply bA_ | apply bN_ | apply bD_ | refine bS_ ?_ GE249.out | refine bS_ ?_ GE250.out | refine bS_ ?_ GE256.out) | exact HB.out)) (fun k_ hs_ => (fun e_ => Kd.R_base HO_257002.out k_ e_.symm) hs_)); (case side3 => exact HC0_2.out); (case side4 => exact Kd.R_tight rfl HO_257002.out); rintro e w37 ⟨v262, rfl, ho0, hb, hkp⟩; refine ⟨_, rfl, ?_⟩; replace BK249 := As_ (blk_kept (by (with_reducible repeat (first | apply kN_ | apply kD_ | apply kA_)); exact BK249.out) hkp (fun hs_ => (fun e_ => (Kd.R_ne HO_257002.out BK249.out (by decide)) e_) hs_)); replace BK250 := As_ (blk_kept (by (with_reducible repeat (first | apply kN_ | apply kD_ | apply kA_)); exact BK250.out) hkp (fun hs_ => (fun e_ => (Kd.R_ne HO_257002.out BK250.out (by decide)) e_) hs_)); replace BK256 := As_ (blk_kept (by (with_reducible repeat (first | apply kN_ | apply kD_ | apply kA_)); exact BK256.out) hkp (fun hs_ => (fun e_ => (Kd.R_ne HO_257002.out BK256.out (by decide)) e_) hs_)); have HO263 := As_ (Kd.R_mono (ok' := fun k_ => True) ho0 (fun k_ hk_ => trivial)); replace HB := As_ (hb); clear HO_257002; (try clear hb); (try clear hkp); (try clear ho0); obtain ⟨hcz38_0, hcz38_1, hcz38_2, hfz38_0, hfz38_1, hfz38_2⟩ := blk_all3 BK250.out; obtain ⟨Ao39, co39, eo39⟩ := Kd.R_slice HO263.out; subst eo39))
          refine bodyPost_ret (results_ct rfl _ _ gb250 24 #[.int .i64 t259, .int .i64 t260, .slice Ao39 t261.length co39] (0, 0) _ rfl (by (with_reducible repeat (first | apply kN_ | apply kD_ | apply kA_)); refine blk_put (cs := #[.int .i64 t259, .int .i64 t260, .slice none 0 0]) ?_ 2 _ rfl; (with_reducible repeat (first | apply kN_ | apply kD_ | apply kA_)); refine blk_put (cs := #[.int .i64 t259, .int .i64 0, .slice none 0 0]) ?_ 1 _ rfl; (with_reducible repeat (first | apply kN_ | apply kD_ | apply kA_)); refine blk_put (cs := #[.int .i64 0, .int .i64 0, .slice none 0 0]) ?_ 0 _ rfl; (with_reducible repeat (first | apply kN_ | apply kD_ | apply kA_)); exact BK250.out) Try.underlying24 rfl (by kernel_rfl)) rfl ?_
          exact ⟨_, by first | rfl | (simp [errW_none, errW_some] <;> rfl) | (simp [*, errW_none, errW_some] <;> rfl), by (with_reducible repeat (first | apply rA_ | apply rN_ | apply rD_)); exact Kd.R_mono (Kd.R_far (p := ⟨gb250, 2, none⟩) (Kd.R_far (p := ⟨gb250, 1, none⟩) (Kd.R_far (p := ⟨gb250, 0, none⟩) (Kd.R_types HO263.out BK250.out (by decide)) (fun _ hk => hk.2) (.int .i64 t259)) (fun _ hk => hk.2) (.int .i64 t260)) (fun _ hk => hk.2) (.slice Ao39 t261.length co39)) (fun _ hk => trivial), by repeat (first | (with_reducible first | exact HB.out | apply bA_ | apply bN_ | apply bD_ | refine bS_ ?_ GE249.out | refine bS_ ?_ GE250.out | refine bS_ ?_ GE256.out) | exact HB.out)⟩
        · rw [if_neg c28] at H
          have c28b0 : (a1 == 0) = false := beq_eq_false_iff_ne.mpr c28
          have c28b1 : (a1 != 0) = true := bne_iff_ne.mpr c28
          by_cases c40 : 0 ≤ t257
          · rw [if_pos c40] at H
            have c40b0 : decide (0 ≤ t257) = true := decide_eq_true c40
            clear c40
            by_cases c41 : t257 < (t253.length : Int)
            · rw [if_pos c41] at H
              have c41b0 : decide (t257 < (t253.length : Int)) = true := decide_eq_true c41
              clear c41
              obtain ⟨y266, hy266⟩ : ∃ y_ : List (S48), y_ = (t253.set (t257 : Int).toNat (⟨(rd_T48 t253 t257).f0, wrap64 (((rd_T48 t253 t257).f1) + a2)⟩ : S48)) := ⟨_, rfl⟩
              replace H : ((spec_l10Ends.f kj5 a0_0 a0_1 l0_2 t251 t252 y266 true).bind fun bt267 => (some (bt267.1, bt267.2.1, bt267.2.2.1, bt267.2.2.2))) = some (r1, r2, r3, r4) := by first | (rw [hy266]; with_reducible exact H) | (have H2_ := (Option.bind_some _ _).symm.trans H; rw [hy266]; with_reducible exact H2_) | (have H2_ := (Option.bind_some _ _).symm.trans H; with_reducible exact H2_) | with_reducible exact H | (rw [hy266]; exact H) | exact H
              have Ny266 := Aside0.mk hy266
              clear hy266
              replace H := Option.bind_eq_some_iff.mp H
              obtain ⟨⟨t267, t268, t269, t272⟩, A430, H⟩ := H
              replace H : (some (t267, t268, t269, t272)) = some (r1, r2, r3, r4) := H
              have A43 := Aside0.mk A430
              clear A430
              simp only [Option.some.injEq, Prod.mk.injEq] at H
              obtain ⟨rfl, rfl, rfl, rfl⟩ := H
              try go_wp2
              replace HO_257002 := As_ (Kd.R_drew HO_257002.out)
              replace BK249 := As_ (blk_drew BK249.out)
              replace BK250 := As_ (blk_drew BK250.out)
              replace BK256 := As_ (blk_drew BK256.out)
              replace HB := As_ (below_drew1 HB.out)
              have p265 : 0 ≤ (t257 : Int) := of_decide_eq_true (by first | (with_reducible assumption) | assumption)
              have q265 : t257 < (t253.length : Int) := of_decide_eq_true (by first | (with_reducible assumption) | assumption)
              obtain ⟨ad265, e265, hx265_0, hx265_1⟩ := at_T48 (Kd.R_reads' HO_257002.out).2.2 t257 p265 q265
              cases e265
              replace p265 := eq_true p265
              replace q265 := eq_true q265
              have p42 : 0 ≤ (t257 : Int) := of_decide_eq_true (by first | (with_reducible assumption) | assumption)
              have q42 : (t257 : Int) < ((t253.length : Int) : Int) := of_decide_eq_true (by first | (with_reducible assumption) | assumption)
              obtain ⟨go42, co42, eo42, gb42, gl42, cl42, HG42⟩ := Kd.R_form HO_257002.out (by omega)
              (first | cases eo42 | (injection eo42 with ea_ en_ ec_; (first | subst ea_ | (injection ea_ with ea_; subst ea_)); subst ec_; clear en_))
              have GB42 := Aside0.mk gb42
              have GG42 := Aside0.mk HG42
              clear gb42 gl42 HG42
              (first | simp only [add_plain] at hx265_0 | skip)
              (first | simp only [add_plain] at hx265_1 | skip)
              obtain ⟨ce42, hcl42, hM42, hcc42, hfr42⟩ := Kd.R_elem HO_257002.out z48 (t257 : Int) p42 q42
              obtain rfl := k48_openM hM42
              have hx42_0 : World.cell? _ ⟨go42, (t257 : Int).toNat * 2, none⟩ = some (.int .i64 ((rd_T48 t253 t257).f0)) := hcc42 0 _ rfl
              have hx42_1 : World.cell? _ ⟨go42, (t257 : Int).toNat * 2 + 1, none⟩ = some (.int .i64 ((rd_T48 t253 t257).f1)) := hcc42 1 _ rfl
              have hf42_0 : World.frozen? _ ⟨go42, (t257 : Int).toNat * 2, none⟩ = false := hfr42 0
              have hf42_1 : World.frozen? _ ⟨go42, (t257 : Int).toNat * 2 + 1, none⟩ = false := hfr42 1
              clear hcl42 hcc42 hfr42 hM42
              replace p42 := eq_true p42
              replace q42 := eq_true q42
              obtain ⟨ce45, hcl45, hM45, hcc45, hfr45⟩ := Kd.R_elem HO_257002.out z48 (t257 : Int) (of_decide_eq_true (by first | (with_reducible assumption) | assumption)) (by have h_ : (t257 : Int) < ((t253.length : Int) : Int) := of_decide_eq_true (by first | (with_reducible assumption) | assumption); first | exact h_ | (have e_ := (Kd.R_reads' HO_257002.out).1; omega) | simpa using h_)
              obtain rfl := k48_openM hM45
              have HP45 := (Kd.R_seg HO_257002.out (t257 : Int) (of_decide_eq_true (by first | (with_reducible assumption) | assumption)) (by have h_ : (t257 : Int) < ((t253.length : Int) : Int) := of_decide_eq_true (by first | (with_reducible assumption) | assumption); first | exact h_ | (have e_ := (Kd.R_reads' HO_257002.out).1; omega) | simpa using h_) (seg := [.int .i64 (wrap64 (((rd_T48 t253 t257).f1) + a2))]) (j := 1) hcl45 hcc45 (show 2 ≤ 2 from by decide) (x' := (⟨(rd_T48 t253 t257).f0, wrap64 (((rd_T48 t253 t257).f1) + a2)⟩ : S48)) (k48_mkM _ _ _ (⟨(rd_T48 t253 t257).f0, wrap64 (((rd_T48 t253 t257).f1) + a2)⟩ : S48) ) (fun _ hk => hk)).1
              rw [← Ny266.out] at HP45
              have HQ45 := Aside0.mk HP45
              clear hcl45 hcc45 hfr45 hM45 HP45
              refine start_ (n := 14) (S := fun w' => w'.cell? ⟨gb256, 0, none⟩ = some (.int .i64 t251) ∧ w'.cell? ⟨gb256, 1, none⟩ = some (.int .i64 t252) ∧ w'.cell? ⟨gb256, 2, none⟩ = some (.slice (some ⟨go42, 0, none⟩) t253.length co16) ∧ w'.cell? ⟨go42, ((t257).toNat * 2), none⟩ = some (.int .i64 ((rd_T48 t253 t257).f0)) ∧ w'.cell? ⟨go42, ((t257).toNat * 2) + 1, none⟩ = some (.int .i64 ((rd_T48 t253 t257).f1))) (ds := [13]) #[false, false, false, false, false, false, false, false, false, false, false, false, false, false] (by kernel_rfl) rfl rfl ⟨(blk_cell BK256.out 0).trans rfl, (blk_cell BK256.out 1).trans rfl, (blk_cell BK256.out 2).trans rfl, hx265_0, hx265_1⟩ (fun hHeld => ?_); refine with_tabW spec_Grant.tab7 spec_Grant.bits7 (fun HT_ HW_ => ?_)
              generalize wc.drew = w44 at HO_257002 BK249 BK250 BK256 HB GG42 HQ45 hf42_0 hf42_1 hx265_0 hx265_1 hx42_0 hx42_1 hHeld ⊢
              refine pure_ (i := 0) (N := some 34) (v := ?_) (a' := ?_) #[true, false, false, false, false, false, false, false, false, false, false, false, false, false] rfl rfl (any_of HT_.out (by kernel_rfl)) (fun _ _ _ h => h) (Or.inl ⟨by rfl, ?_⟩) ?_ ?_
              rotate_left
              · intro w'
                go_simp
                with_reducible rfl
              rotate_left
              · simp only [Act.put, List.setIfInBounds_toArray, List.set_cons_zero, List.set_cons_succ, i64_w, i32_w]
                rfl
              refine pure_ (i := 2) (N := some 36) (v := ?_) (a' := ?_) #[true, false, true, false, false, false, false, false, false, false, false, false, false, false] rfl rfl (any_of HT_.out (by kernel_rfl)) (fun _ _ _ h => h) (Or.inl ⟨by rfl, ?_⟩) ?_ ?_
              rotate_left
              · intro w'
                go_simp
                with_reducible rfl
              rotate_left
              · simp only [Act.put, List.setIfInBounds_toArray, List.set_cons_zero, List.set_cons_succ, i64_w, i32_w]
                rfl
              refine pure_ (i := 3) (N := some 37) (v := ?_) (a' := ?_) #[true, false, true, true, false, false, false, false, false, false, false, false, false, false] rfl rfl (any_of HT_.out (by kernel_rfl)) (fun _ _ _ h => h) (Or.inl ⟨by rfl, ?_⟩) ?_ ?_
              rotate_left
              · intro w'
                go_simp
                with_reducible rfl
              rotate_left
              · simp only [Act.put, List.setIfInBounds_toArray, List.set_cons_zero, List.set_cons_succ, i64_w, i32_w]
                rfl
              refine pure_ (i := 5) (N := some 39) (v := ?_) (a' := ?_) #[true, false, true, true, false, true, false, false, false, false, false, false, false, false] rfl rfl (any_of HT_.out (by kernel_rfl)) (fun _ _ _ h => h) (Or.inl ⟨by rfl, ?_⟩) ?_ ?_
              rotate_left
              · intro w'
                go_simp
                with_reducible rfl
              rotate_left
              · simp only [Act.put, List.setIfInBounds_toArray, List.set_cons_zero, List.set_cons_succ, i64_w, i32_w]
                rfl
              refine pure_ (i := 9) (N := some 43) (v := ?_) (a' := ?_) #[true, false, true, true, false, true, false, false, false, true, false, false, false, false] rfl rfl (any_of HT_.out (by kernel_rfl)) (fun _ _ _ h => h) (Or.inl ⟨by rfl, ?_⟩) ?_ ?_
              rotate_left
              · intro w'
                go_simp
                with_reducible rfl
              rotate_left
              · simp only [Act.put, List.setIfInBounds_toArray, List.set_cons_zero, List.set_cons_succ, i64_w, i32_w]
                rfl
              refine take_ (i := 1) (N := some 35) (v := ?_) (a' := ?_) #[true, true, true, true, false, true, false, false, false, true, false, false, false, false] rfl rfl (take_ofW HT_.out HW_.out (by kernel_rfl)) (fun _ _ _ h => h) (Or.inl ⟨by rfl, ?_⟩) hHeld ?_ ?_
              rotate_left
              · rintro w' ⟨s0, s1, s2, s3, s4⟩
                go_simp
                with_reducible rfl
              rotate_left
              · simp only [Act.put, List.setIfInBounds_toArray, List.set_cons_zero, List.set_cons_succ, i64_w, i32_w]
                rfl
              refine take_ (i := 4) (N := some 38) (v := ?_) (a' := ?_) #[true, true, true, true, true, true, false, false, false, true, false, false, false, false] rfl rfl (take_ofW HT_.out HW_.out (by kernel_rfl)) (fun _ _ _ h => h) (Or.inl ⟨by rfl, ?_⟩) hHeld ?_ ?_
              rotate_left
              · rintro w' ⟨s0, s1, s2, s3, s4⟩
                go_simp
                with_reducible rfl
              rotate_left
              · simp only [Act.put, List.setIfInBounds_toArray, List.set_cons_zero, List.set_cons_succ, i64_w, i32_w]
                rfl
              refine pure_ (i := 6) (N := some 40) (v := ?_) (a' := ?_) #[true, true, true, true, true, true, true, false, false, true, false, false, false, false] rfl rfl (any_of HT_.out (by kernel_rfl)) (fun _ _ _ h => h) (Or.inl ⟨by rfl, ?_⟩) ?_ ?_
              rotate_left
              · intro w'
                go_simp
                with_reducible rfl
              rotate_left
              · simp only [Act.put, List.setIfInBounds_toArray, List.set_cons_zero, List.set_cons_succ, i64_w, i32_w]
                rfl
              refine pure_ (i := 7) (N := some 41) (v := ?_) (a' := ?_) #[true, true, true, true, true, true, true, true, false, true, false, false, false, false] rfl rfl (any_of HT_.out (by kernel_rfl)) (fun _ _ _ h => h) (Or.inl ⟨by rfl, ?_⟩) ?_ ?_
              rotate_left
              · intro w'
                go_simp
                with_reducible rfl
              rotate_left
              · simp only [Act.put, List.setIfInBounds_toArray, List.set_cons_zero, List.set_cons_succ, i64_w, i32_w]
                rfl
              refine take_ (i := 8) (N := some 42) (v := ?_) (a' := ?_) #[true, true, true, true, true, true, true, true, true, true, false, false, false, false] rfl rfl (take_ofW HT_.out HW_.out (by kernel_rfl)) (fun _ _ _ h => h) (Or.inl ⟨by rfl, ?_⟩) hHeld ?_ ?_
              rotate_left
              · rintro w' ⟨s0, s1, s2, s3, s4⟩
                go_simp
                with_reducible rfl
              rotate_left
              · simp only [Act.put, List.setIfInBounds_toArray, List.set_cons_zero, List.set_cons_succ, i64_w, i32_w]
                rfl
              refine pure_ (i := 10) (N := some 44) (v := ?_) (a' := ?_) #[true, true, true, true, true, true, true, true, true, true, true, false, false, false] rfl rfl (any_of HT_.out (by kernel_rfl)) (fun _ _ _ h => h) (Or.inl ⟨by rfl, ?_⟩) ?_ ?_
              rotate_left
              · intro w'
                go_simp
                with_reducible rfl
              rotate_left
              · simp only [Act.put, List.setIfInBounds_toArray, List.set_cons_zero, List.set_cons_succ, i64_w, i32_w]
                rfl
              refine pure_ (i := 11) (N := some 45) (v := ?_) (a' := ?_) #[true, true, true, true, true, true, true, true, true, true, true, true, false, false] rfl rfl (any_of HT_.out (by kernel_rfl)) (fun _ _ _ h => h) (Or.inl ⟨by rfl, ?_⟩) ?_ ?_
              rotate_left
              · intro w'
                go_simp
                with_reducible rfl
              rotate_left
              · simp only [Act.put, List.setIfInBounds_toArray, List.set_cons_zero, List.set_cons_succ, i64_w, i32_w]
                rfl
              refine pure_ (i := 12) (N := some 46) (v := ?_) (a' := ?_) #[true, true, true, true, true, true, true, true, true, true, true, true, true, false] rfl rfl (any_of HT_.out (by kernel_rfl)) (fun _ _ _ h => h) (Or.inl ⟨by rfl, ?_⟩) ?_ ?_
              rotate_left
              · intro w'
                go_simp
                with_reducible rfl
              rotate_left
              · simp only [Act.put, List.setIfInBounds_toArray, List.set_cons_zero, List.set_cons_succ, i64_w, i32_w]
                rfl
              refine last_ (i := 13) (N := none) #[true, true, true, true, true, true, true, true, true, true, true, true, true, true] rfl rfl (one_of HT_.out (by kernel_rfl)) (by decide) (fun K hK => ?_)
              refine skip_ (w1 := ?_) (by rfl) rfl ?_ ?_
              rotate_left
              · go_simp
                rfl
              refine hK.out _ _ ?_
              clear hK K
              refine done_ (done_of HT_.out (by kernel_rfl)) ?_
              have n0_ : Aside0 (Kd.R k48 48 (w44.setCell ⟨go42, (t257 : Int).toNat * 2 + 1, none⟩ (.int .i64 (wrap64 (((rd_T48 t253 t257).f1) + a2)))) w.heap.size (fun _ => True) (.slice (some ⟨go42, 0, none⟩) t253.length co16) y266) := ⟨by (with_reducible repeat (first | apply rA_ | apply rN_ | apply rD_)); exact HQ45.out⟩
              have n1_ : Aside0 ((w44.setCell ⟨go42, (t257 : Int).toNat * 2 + 1, none⟩ (.int .i64 (wrap64 (((rd_T48 t253 t257).f1) + a2)))).heap[gb249]? = some (.cells #[.int .i64 a0_0, .int .i64 a0_1, .slice A0_2 l0_2.length c0_2] 24 (0, 0))) := ⟨by (with_reducible repeat (first | apply kN_ | apply kD_ | apply kA_)); refine blk_far ?_ (by have h_ := Kd.R_ne HO_257002.out BK249.out (by decide); intro e_; exact h_ (by rw [e_]; rfl)) _; (with_reducible repeat (first | apply kN_ | apply kD_ | apply kA_)); exact BK249.out⟩
              have n2_ : Aside0 ((w44.setCell ⟨go42, (t257 : Int).toNat * 2 + 1, none⟩ (.int .i64 (wrap64 (((rd_T48 t253 t257).f1) + a2)))).heap[gb250]? = some (.cells #[.int .i64 0, .int .i64 0, .slice none 0 0] 24 (0, 0))) := ⟨by (with_reducible repeat (first | apply kN_ | apply kD_ | apply kA_)); refine blk_far ?_ (by have h_ := Kd.R_ne HO_257002.out BK250.out (by decide); intro e_; exact h_ (by rw [e_]; rfl)) _; (with_reducible repeat (first | apply kN_ | apply kD_ | apply kA_)); exact BK250.out⟩
              have n3_ : Aside0 ((w44.setCell ⟨go42, (t257 : Int).toNat * 2 + 1, none⟩ (.int .i64 (wrap64 (((rd_T48 t253 t257).f1) + a2)))).heap[gb256]? = some (.cells #[.int .i64 t251, .int .i64 t252, .slice (some ⟨go42, 0, none⟩) t253.length co16] 24 (0, 0))) := ⟨by (with_reducible repeat (first | apply kN_ | apply kD_ | apply kA_)); refine blk_far ?_ (by have h_ := Kd.R_ne HO_257002.out BK256.out (by decide); intro e_; exact h_ (by rw [e_]; rfl)) _; (with_reducible repeat (first | apply kN_ | apply kD_ | apply kA_)); exact BK256.out⟩
              have n4_ : Aside0 (Below w.heap.size w (w44.setCell ⟨go42, (t257 : Int).toNat * 2 + 1, none⟩ (.int .i64 (wrap64 (((rd_T48 t253 t257).f1) + a2))))) := ⟨by repeat (first | (with_reducible first | exact HB.out | apply bA_ | apply bN_ | apply bD_ | refine bS_ ?_ GB42.out | refine bS_ ?_ GE249.out | refine bS_ ?_ GE250.out | refine bS_ ?_ GE256.out) | exact HB.out)⟩
              (try clear HO_257002)
              (try clear BK249)
              (try clear BK250)
              (try clear BK256)
              (try clear HB)
              generalize (w44.setCell ⟨go42, (t257 : Int).toNat * 2 + 1, none⟩ (.int .i64 (wrap64 (((rd_T48 t253 t257).f1) + a2)))) = w46 at n0_ n1_ n2_ n3_ n4_ ⊢
              have HO_257002 := n0_
              have BK249 := n1_
              have BK250 := n2_
              have BK256 := n3_
              have HB := n4_
              clear n0_ n1_ n2_ n3_ n4_
              have hnb47 := NB249_250.out
              have hnc47 := NB250_249.out
              have hnb48 := NB249_256.out
              have hnc48 := NB256_249.out
              obtain ⟨hcz49_0, hcz49_1, hcz49_2, hfz49_0, hfz49_1, hfz49_2⟩ := blk_all3 BK249.out
              have hnb50 := NB256_250.out
              have hnc50 := NB250_256.out
              obtain ⟨hcz51_0, hcz51_1, hcz51_2, hfz51_0, hfz51_1, hfz51_2⟩ := blk_all3 BK256.out
              try go_wp2_with (first | ((with_reducible refine gate_callee (f := 48) rfl ?_); refine goesL_ (some 49) rfl rfl Try.func48 (by kernel_rfl) rfl #[.agg #[.int .i64 a0_0, .int .i64 a0_1, .slice A0_2 l0_2.length c0_2], .agg #[.int .i64 t251, .int .i64 t252, .slice (some ⟨go42, 0, none⟩) t253.length co16], .bool true] rfl (by (try simp only [List.map_toArray, List.map_cons, List.map_nil]); first | done | rfl | (simp only [List.length_drop, List.length_take]; rfl)) ?_; (with_reducible refine (spec_l10Ends.calls kj5 a0_0 a0_1 _ _ l0_2 t251 t252 (fun k_ => some k_ = (.slice (some ⟨go42, 0, none⟩) t253.length co16 : Value).ownBlock) (.slice (some ⟨go42, 0, none⟩) t253.length co16) y266 true t267 t268 t269 t272 w _ ?side1 ?side2 ?side3 ?side4 A43.out).mono ?_); (case side1 => repeat (first | (with_reducible first | exact HB.out | apply bA_ | apply bN_ | apply bD_ | refine bS_ ?_ GE249.out | refine bS_ ?_ GE250.out | refine bS_ ?_ GE256.out) | exact HB.out)); (case side2 => exact Kd.C_kept_came k48_heap HR0_2.out (by repeat (first | (with_reducible first | exact HB.out | apply bA_ | apply bN_ | apply bD_ | refine bS_ ?_ GE249.out | refine bS_ ?_ GE250.out | refine bS_ ?_ GE256.out) | exact HB.out)) (fun k_ hs_ => (fun e_ => Kd.R_base HO_257002.out k_ e_.symm) hs_)); (case side3 => exact HC0_2.out); (case side4 => exact Kd.R_tight rfl HO_257002.out); rintro e w52 ⟨v270, rfl, ho0, hb, hkp⟩; refine ⟨_, rfl, ?_⟩; replace BK249 := As_ (blk_kept (by (with_reducible repeat (first | apply kN_ | apply kD_ | apply kA_)); exact BK249.out) hkp (fun hs_ => (fun e_ => (Kd.R_ne HO_257002.out BK249.out (by decide)) e_) hs_)); replace BK250 := As_ (blk_kept (by (with_reducible repeat (first | apply kN_ | apply kD_ | apply kA_)); exact BK250.out) hkp (fun hs_ => (fun e_ => (Kd.R_ne HO_257002.out BK250.out (by decide)) e_) hs_)); replace BK256 := As_ (blk_kept (by (with_reducible repeat (first | apply kN_ | apply kD_ | apply kA_)); exact BK256.out) hkp (fun hs_ => (fun e_ => (Kd.R_ne HO_257002.out BK256.out (by decide)) e_) hs_)); have HO271 := As_ (Kd.R_mono (ok' := fun k_ => True) ho0 (fun k_ hk_ => trivial)); replace HB := As_ (hb); clear HO_257002; (try clear hb); (try clear hkp); (try clear ho0); obtain ⟨hcz53_0, hcz53_1, hcz53_2, hfz53_0, hfz53_1, hfz53_2⟩ := blk_all3 BK250.out; obtain ⟨Ao54, co54, eo54⟩ := Kd.R_slice HO271.out; subst eo54))
              refine bodyPost_ret (results_ct rfl _ _ gb250 24 #[.int .i64 t267, .int .i64 t268, .slice Ao54 t269.length co54] (0, 0) _ rfl (by (with_reducible repeat (first | apply kN_ | apply kD_ | apply kA_)); refine blk_put (cs := #[.int .i64 t267, .int .i64 t268, .slice none 0 0]) ?_ 2 _ rfl; (with_reducible repeat (first | apply kN_ | apply kD_ | apply kA_)); refine blk_put (cs := #[.int .i64 t267, .int .i64 0, .slice none 0 0]) ?_ 1 _ rfl; (with_reducible repeat (first | apply kN_ | apply kD_ | apply kA_)); refine blk_put (cs := #[.int .i64 0, .int .i64 0, .slice none 0 0]) ?_ 0 _ rfl; (with_reducible repeat (first | apply kN_ | apply kD_ | apply kA_)); exact BK250.out) Try.underlying24 rfl (by kernel_rfl)) rfl ?_
              exact ⟨_, by first | rfl | (simp [errW_none, errW_some] <;> rfl) | (simp [*, errW_none, errW_some] <;> rfl), by (with_reducible repeat (first | apply rA_ | apply rN_ | apply rD_)); exact Kd.R_mono (Kd.R_far (p := ⟨gb250, 2, none⟩) (Kd.R_far (p := ⟨gb250, 1, none⟩) (Kd.R_far (p := ⟨gb250, 0, none⟩) (Kd.R_types HO271.out BK250.out (by decide)) (fun _ hk => hk.2) (.int .i64 t267)) (fun _ hk => hk.2) (.int .i64 t268)) (fun _ hk => hk.2) (.slice Ao54 t269.length co54)) (fun _ hk => trivial), by repeat (first | (with_reducible first | exact HB.out | apply bA_ | apply bN_ | apply bD_ | refine bS_ ?_ GE249.out | refine bS_ ?_ GE250.out | refine bS_ ?_ GE256.out) | exact HB.out)⟩
            · rw [if_neg c41] at H
              exact absurd H (by simp)
          · rw [if_neg c40] at H
            exact absurd H (by simp)

end Go.Proofs.Ytejnagdmfooemaa.QFnSpent
