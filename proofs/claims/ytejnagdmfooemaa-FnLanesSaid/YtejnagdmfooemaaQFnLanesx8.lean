/- Contracts of functions of the translation, each with its pure function; printed by a program of this session (wip/pr.py) over the kit's print; no condition of its own. -/
import Derived.Test.YtejnagdmfooemaaQFnLanesx0
import Derived.Test.YtejnagdmfooemaaQFnLanesx3
import Derived.Test.YtejnagdmfooemaaQFnLanesx5
import Derived.Test.YtejnagdmfooemaaQFnLanesx6
import Derived.Test.YtejnagdmfooemaaQFnLanesx7
namespace Go.Proofs.Ytejnagdmfooemaa.QFnLanes
open Go.RowKit Go.Proofs.YtejnagdmfooemaaW.PrintWords Go.Proofs.YtejnagdmfooemaaW.PrintLast Go.Proofs.YtejnagdmfooemaaW.PrintMore
attribute [local go_sem] max2_int min2_int max_two min_two max_three min_three max_four min_four   -- for this text's walks alone
set_option linter.unusedVariables false
set_option linter.unusedSimpArgs false

/-! ### spec_l10Draw: function 59 -/
mutual
def spec_l10Draw.l0 : Nat → Int → List Int → Int → Int → Int → Int → List (S48) → Option (Int × Int × (List (S48)) × Int × Int)
  | 0, _, _, _, _, _, _, _ => none
  | k + 1, x4, x1000, x1001, x1002, x351000, x351001, x351002 => if x4 > 0 then ((spec_l1Int.f x1000 x1001 x1002 (([1, 3, 5] : List Int))).bind fun bt357 => ((spec_l1Below.f x1000 bt357.2.1 bt357.2.2 5).bind fun bt360 => (if bt360.1 = 0 then (spec_l10Draw.j1 k x4 bt357.1 bt360.1 (bt360.1 == 0) x1000 bt360.2.1 bt360.2.2 x351000 x351001 x351002) else (spec_l10Draw.j1 k x4 bt357.1 bt360.1 (bt360.1 == 1) x1000 bt360.2.1 bt360.2.2 x351000 x351001 x351002)))) else (some (x351000, x351001, x351002, x1001, x1002))
def spec_l10Draw.j1 : Nat → Int → Int → Int → Bool → List Int → Int → Int → Int → Int → List (S48) → Option (Int × Int × (List (S48)) × Int × Int)
  | 0, _, _, _, _, _, _, _, _, _, _ => none
  | k + 1, x4, x5, x20, x29, x1000, x1001, x1002, x351000, x351001, x351002 => if x29 = true then ((spec_OpenLane.f k x351000 x351001 x351002 x5).bind fun bt363 => (spec_l10Draw.l0 k (wrap64 (x4 - 1)) x1000 x1001 x1002 bt363.1 bt363.2.1 bt363.2.2.1)) else (if x20 = 2 then ((spec_l1Int.f x1000 x1001 x1002 (([1, 10, 50] : List Int))).bind fun bt372 => ((spec_Spend.f k x351000 x351001 x351002 x5 bt372.1).bind fun bt375 => (spec_l10Draw.l0 k (wrap64 (x4 - 1)) x1000 bt372.2.1 bt372.2.2 bt375.1 bt375.2.1 bt375.2.2.1))) else (if x20 = 3 then ((spec_l1Int.f x1000 x1001 x1002 (([0, x5] : List Int))).bind fun bt384 => ((spec_l1Int.f x1000 bt384.2.1 bt384.2.2 (([1, 100] : List Int))).bind fun bt390 => ((spec_Grant.f k x351000 x351001 x351002 bt384.1 bt390.1).bind fun bt393 => (spec_l10Draw.l0 k (wrap64 (x4 - 1)) x1000 bt390.2.1 bt390.2.2 bt393.1 bt393.2.1 bt393.2.2.1)))) else ((spec_l1Int.f x1000 x1001 x1002 (([0, 50, 200] : List Int))).bind fun bt402 => ((spec_NewInit.f k x351000 x351001 x351002 bt402.1).bind fun bt405 => (spec_l10Draw.l0 k (wrap64 (x4 - 1)) x1000 bt402.2.1 bt402.2.2 bt405.1 bt405.2.1 bt405.2.2.1)))))
end
def spec_l10Draw.f (k : Nat) (s0_0 : List Int) (s0_1 : Int) (s0_2 : Int) : Option (Int × Int × (List (S48)) × Int × Int) := (spec_l1Int.f s0_0 s0_1 s0_2 (([100, 65535, 0, 10] : List Int))).bind fun bt342 => ((spec_FlowNew.f bt342.1).bind fun bt345 => ((spec_l1Below.f s0_0 bt342.2.1 bt342.2.2 6).bind fun bt351 => (spec_l10Draw.l0 k bt351.1 s0_0 bt351.2.1 bt351.2.2 bt345.1 bt345.2.1 bt345.2.2)))
theorem spec_l10Draw.mono_l : ∀ k, (∀ y0 y1 y2 y3 y4 y5 y6, LeO (spec_l10Draw.l0 k y0 y1 y2 y3 y4 y5 y6) (spec_l10Draw.l0 (k + 1) y0 y1 y2 y3 y4 y5 y6)) ∧ (∀ y0 y1 y2 y3 y4 y5 y6 y7 y8 y9, LeO (spec_l10Draw.j1 k y0 y1 y2 y3 y4 y5 y6 y7 y8 y9) (spec_l10Draw.j1 (k + 1) y0 y1 y2 y3 y4 y5 y6 y7 y8 y9))
  | 0 => ⟨fun _ _ _ _ _ _ _ r h => by simp [spec_l10Draw.l0] at h, fun _ _ _ _ _ _ _ _ _ _ r h => by simp [spec_l10Draw.j1] at h⟩
  | k + 1 => by
    obtain ⟨ih0, ih1⟩ := spec_l10Draw.mono_l k
    refine ⟨?_, ?_⟩
    · intro y0 y1 y2 y3 y4 y5 y6
      unfold spec_l10Draw.l0
      repeat' first
      | (with_reducible exact ih0 _ _ _ _ _ _ _)
      | (with_reducible exact ih1 _ _ _ _ _ _ _ _ _ _)
      | (with_reducible exact spec_Grant.mono _ _ _ _ _ _)
      | (with_reducible exact spec_NewInit.mono _ _ _ _ _)
      | (with_reducible exact spec_OpenLane.mono _ _ _ _ _)
      | (with_reducible exact spec_Spend.mono _ _ _ _ _ _)
      | (with_reducible exact LeO.refl _)
      | (with_reducible exact LeO.none _)
      | (with_reducible refine LeO.ite ?_ ?_)
      | (with_reducible refine LeO.bind ?_ (fun _ => ?_))
      | exact ih0 _ _ _ _ _ _ _
      | exact ih1 _ _ _ _ _ _ _ _ _ _
      | exact spec_Grant.mono _ _ _ _ _ _
      | exact spec_NewInit.mono _ _ _ _ _
      | exact spec_OpenLane.mono _ _ _ _ _
      | exact spec_Spend.mono _ _ _ _ _ _
      | exact LeO.none _
      | refine LeO.ite ?_ ?_
      | refine LeO.bind ?_ (fun _ => ?_)
    · intro y0 y1 y2 y3 y4 y5 y6 y7 y8 y9
      unfold spec_l10Draw.j1
      repeat' first
      | (with_reducible exact ih0 _ _ _ _ _ _ _)
      | (with_reducible exact ih1 _ _ _ _ _ _ _ _ _ _)
      | (with_reducible exact spec_Grant.mono _ _ _ _ _ _)
      | (with_reducible exact spec_NewInit.mono _ _ _ _ _)
      | (with_reducible exact spec_OpenLane.mono _ _ _ _ _)
      | (with_reducible exact spec_Spend.mono _ _ _ _ _ _)
      | (with_reducible exact LeO.refl _)
      | (with_reducible exact LeO.none _)
      | (with_reducible refine LeO.ite ?_ ?_)
      | (with_reducible refine LeO.bind ?_ (fun _ => ?_))
      | exact ih0 _ _ _ _ _ _ _
      | exact ih1 _ _ _ _ _ _ _ _ _ _
      | exact spec_Grant.mono _ _ _ _ _ _
      | exact spec_NewInit.mono _ _ _ _ _
      | exact spec_OpenLane.mono _ _ _ _ _
      | exact spec_Spend.mono _ _ _ _ _ _
      | exact LeO.none _
      | refine LeO.ite ?_ ?_
      | refine LeO.bind ?_ (fun _ => ?_)
theorem spec_l10Draw.mono : ∀ a0 a1 a2 k, LeO (spec_l10Draw.f k a0 a1 a2) (spec_l10Draw.f (k + 1) a0 a1 a2) := by
  intro a0 a1 a2 k
  obtain ⟨ih0, ih1⟩ := spec_l10Draw.mono_l k
  unfold spec_l10Draw.f
  repeat' first
      | (with_reducible exact ih0 _ _ _ _ _ _ _)
      | (with_reducible exact ih1 _ _ _ _ _ _ _ _ _ _)
      | (with_reducible exact spec_Grant.mono _ _ _ _ _ _)
      | (with_reducible exact spec_NewInit.mono _ _ _ _ _)
      | (with_reducible exact spec_OpenLane.mono _ _ _ _ _)
      | (with_reducible exact spec_Spend.mono _ _ _ _ _ _)
      | (with_reducible exact LeO.refl _)
      | (with_reducible exact LeO.none _)
      | (with_reducible refine LeO.ite ?_ ?_)
      | (with_reducible refine LeO.bind ?_ (fun _ => ?_))
      | exact ih0 _ _ _ _ _ _ _
      | exact ih1 _ _ _ _ _ _ _ _ _ _
      | exact spec_Grant.mono _ _ _ _ _ _
      | exact spec_NewInit.mono _ _ _ _ _
      | exact spec_OpenLane.mono _ _ _ _ _
      | exact spec_Spend.mono _ _ _ _ _ _
      | exact LeO.none _
      | refine LeO.ite ?_ ?_
      | refine LeO.bind ?_ (fun _ => ?_)
def spec_l10Draw.T7 : Bool × List (List Nat × List Nat) := (true, [([], []), ([], []), ([], []), ([1, 2], [1, 2]), ([0, 3, 3], [0, 3]), ([4], [4]), ([5], [5]), ([5], [5]), ([6, 4, 0, 1, 2, 3, 4, 5, 6], [6])])
def spec_l10Draw.B7 : List Nat := [0, 0, 0, 6, 15, 31, 63, 63, 127]
theorem spec_l10Draw.tab7 : rtab .any (opsOf Try.f59 7) = spec_l10Draw.T7 := by kernel_rfl
theorem spec_l10Draw.bits7 : waitsOk spec_l10Draw.T7.2 spec_l10Draw.B7 = true := by kernel_rfl
def spec_l10Draw.T12 : Bool × List (List Nat × List Nat) := (true, [([], []), ([], []), ([], []), ([], []), ([2, 3], [2, 3]), ([0, 1, 4, 4], [0, 1, 4]), ([5], [5]), ([6], [6]), ([6], [6]), ([7, 5, 0, 1, 2, 3, 4, 5, 6, 7], [7])])
def spec_l10Draw.B12 : List Nat := [0, 0, 0, 0, 12, 31, 63, 127, 127, 255]
theorem spec_l10Draw.tab12 : rtab .any (opsOf Try.f59 12) = spec_l10Draw.T12 := by kernel_rfl
theorem spec_l10Draw.bits12 : waitsOk spec_l10Draw.T12.2 spec_l10Draw.B12 = true := by kernel_rfl
def spec_l10Draw.T14 : Bool × List (List Nat × List Nat) := (true, [([], []), ([], []), ([], []), ([2], [2]), ([1, 3], [1, 3]), ([], []), ([], []), ([5, 6, 4], [5, 6]), ([0, 4, 7, 7], [0, 4, 7]), ([8], [8]), ([9], [9]), ([9], [9]), ([10, 8, 0, 1, 2, 3, 4, 5, 6, 7, 8, 9, 10], [10])])
def spec_l10Draw.B14 : List Nat := [0, 0, 0, 4, 14, 0, 0, 126, 255, 511, 1023, 1023, 2047]
theorem spec_l10Draw.tab14 : rtab .any (opsOf Try.f59 14) = spec_l10Draw.T14 := by kernel_rfl
theorem spec_l10Draw.bits14 : waitsOk spec_l10Draw.T14.2 spec_l10Draw.B14 = true := by kernel_rfl
set_option maxHeartbeats 8000000 in
set_option maxRecDepth 100000 in
theorem spec_l10Draw.calls (k : Nat) (g : Nat) (s0_0 : List Int) (s0_1 : Int) (s0_2 : Int) (r1 : Int) (r2 : Int) (r3 : List (S48)) (r4 : Int) (r5 : Int) (w0 w : World) (hI : IsS72 w0 w g s0_0 s0_1 s0_2) (hB : Below w0.heap.size w0 w) (h : spec_l10Draw.f k s0_0 s0_1 s0_2 = some (r1, r2, r3, r4, r5)) :
    Calls Try.prog 59 #[.pointer (some ⟨g, 0, none⟩)] w fun e w' => ∃ v2_ : Value, e = .returned (.agg #[.int .i64 r1, .int .i64 r2, v2_]) ∧ Kd.R k48 48 w' w.heap.size (fun _ => True) v2_ r3 ∧ IsS72 w0 w' g s0_0 r4 r5 ∧ Below w0.heap.size w0 w' ∧ KeepBut w w' g none := by
  have hu24 := Try.underlying24
  have HI0 := Aside0.mk hI
  have HK := As_ (KeepBut.refl w g none)
  have HL := Aside0.mk hB.size
  clear hI
  have HW0 := Aside0.mk hB.size
  have HB := Aside0.mk hB
  clear hB
  have H : ((spec_l1Int.f s0_0 s0_1 s0_2 (([100, 65535, 0, 10] : List Int))).bind fun bt342 => ((spec_FlowNew.f bt342.1).bind fun bt345 => ((spec_l1Below.f s0_0 bt342.2.1 bt342.2.2 6).bind fun bt351 => (spec_l10Draw.l0 k bt351.1 s0_0 bt351.2.1 bt351.2.2 bt345.1 bt345.2.1 bt345.2.2)))) = some (r1, r2, r3, r4, r5) := h
  clear h
  obtain ⟨y339, hy339⟩ : ∃ y_ : List Int, y_ = (([100, 65535, 0, 10] : List Int)) := ⟨_, rfl⟩
  replace H : ((spec_l1Int.f s0_0 s0_1 s0_2 y339).bind fun bt342 => ((spec_FlowNew.f bt342.1).bind fun bt345 => ((spec_l1Below.f s0_0 bt342.2.1 bt342.2.2 6).bind fun bt351 => (spec_l10Draw.l0 k bt351.1 s0_0 bt351.2.1 bt351.2.2 bt345.1 bt345.2.1 bt345.2.2)))) = some (r1, r2, r3, r4, r5) := by first | (rw [hy339]; with_reducible exact H) | (have H2_ := (Option.bind_some _ _).symm.trans H; rw [hy339]; with_reducible exact H2_) | (have H2_ := (Option.bind_some _ _).symm.trans H; with_reducible exact H2_) | with_reducible exact H | (rw [hy339]; exact H) | exact H
  have Ny339 := Aside0.mk hy339
  clear hy339
  replace H := Option.bind_eq_some_iff.mp H
  obtain ⟨⟨t342, t343, t344⟩, A20, H⟩ := H
  replace H : ((spec_FlowNew.f t342).bind fun bt345 => ((spec_l1Below.f s0_0 t343 t344 6).bind fun bt351 => (spec_l10Draw.l0 k bt351.1 s0_0 bt351.2.1 bt351.2.2 bt345.1 bt345.2.1 bt345.2.2))) = some (r1, r2, r3, r4, r5) := H
  have A2 := Aside0.mk A20
  clear A20
  replace H := Option.bind_eq_some_iff.mp H
  obtain ⟨⟨t345, t346, t347⟩, A30, H⟩ := H
  replace H : ((spec_l1Below.f s0_0 t343 t344 6).bind fun bt351 => (spec_l10Draw.l0 k bt351.1 s0_0 bt351.2.1 bt351.2.2 t345 t346 t347)) = some (r1, r2, r3, r4, r5) := H
  have A3 := Aside0.mk A30
  clear A30
  replace H := Option.bind_eq_some_iff.mp H
  obtain ⟨⟨t351, t352, t353⟩, A40, H⟩ := H
  replace H : (spec_l10Draw.l0 k t351 s0_0 t352 t353 t345 t346 t347) = some (r1, r2, r3, r4, r5) := H
  have A4 := Aside0.mk A40
  clear A40
  have H' := Aside0.mk H
  clear H
  go_enter Try.func59, Try.ntmps59
  go_wp2_with (first | ((with_reducible refine gate_dst (N := 2) rfl ?_); refine box_event ?hg (N := 2) ?hd (cs := #[.int .i64 0, .int .i64 0, .slice none 0 0]) (t := 24) ?hr ?_; (case hd => rfl); (case hg => rfl); (case hr => first | (go_simp; done) | (go_simp; rfl)); intro gb338 hg w5 hbox hb; have n0_ := As_ (IsS72.below (by repeat (first | (with_reducible first | exact HI0.out | apply IsS72.alloc | apply IsS72.drewN | apply IsS72.drew | apply IsS72.set_1 | apply IsS72.set_2) | exact HI0.out)) hb); have n1_ := As_ (KeepBut.trans (zk0_ HK.out) (KeepBut.of_below hb g none) (.inl rfl)); have n2_ := As_ (below_step (zb1_ HB.out (IsS72.ge HI0.out)) hb); have n3_ := As_ (hbox); have n4_ := As_ ((sk_ hg (zk0_ HK.out) : w.heap.size ≤ gb338)); have n5_ := As_ ((Nat.le_trans HW0.out (sk_ hg (zk0_ HK.out) : w.heap.size ≤ gb338) : w0.heap.size ≤ gb338)); have n6_ := As_ ((by rw [hg]; exact Nat.ne_of_lt (IsS72.lt (show IsS72 w0 _ g s0_0 s0_1 s0_2 from by repeat (first | (with_reducible first | exact HI0.out | apply IsS72.alloc | apply IsS72.drewN | apply IsS72.drew | apply IsS72.set_1 | apply IsS72.set_2) | exact HI0.out))) : g ≠ gb338)); have n7_ := As_ ((by rw [hg]; exact Nat.ne_of_gt (IsS72.lt (show IsS72 w0 _ g s0_0 s0_1 s0_2 from by repeat (first | (with_reducible first | exact HI0.out | apply IsS72.alloc | apply IsS72.drewN | apply IsS72.drew | apply IsS72.set_1 | apply IsS72.set_2) | exact HI0.out))) : gb338 ≠ g)); clear HI0 HK HB; have HI0 := n0_; have HK := n1_; have HB := n2_; have BK338 := n3_; have GW338 := n4_; have GE338 := n5_; have NB0_338 := n6_; have NB338_0 := n7_; clear n0_ n1_ n2_ n3_ n4_ n5_ n6_ n7_ hb hbox hg) | ((with_reducible refine gate_dst (N := 7) rfl ?_); refine Kd.R_lit (Kd.int .i64) _ 3 ?hg (N := 7) ?hd (xs := ([100, 65535, 0, 10] : List Int)) (inner := [.int .i64 100, .int .i64 65535, .int .i64 0, .int .i64 10]) (ok := fun _ => True) (okp := fun _ => True) ?hr ?hp (fun _ hk => hk) trivial (Below.refl _ _) (Nat.le_refl _) (by simp) ?_; (case hd => rfl); (case hg => rfl); (case hr => first | (go_simp; done) | (go_simp; rfl)); (case hp => exact (Reps.one (show Kd.M (Kd.int .i64) _ _ _ 100 [.int .i64 100] from rfl) (Reps.one (show Kd.M (Kd.int .i64) _ _ _ 65535 [.int .i64 65535] from rfl) (Reps.one (show Kd.M (Kd.int .i64) _ _ _ 0 [.int .i64 0] from rfl) (Reps.one (show Kd.M (Kd.int .i64) _ _ _ 10 [.int .i64 10] from rfl) (Reps.none _ _)))))); intro v340 w6 ho7 hb hg_ hnew_; clear hg_ hnew_; (first | rw [← Ny339.out] at ho7 | (simp only [Int.reduceToNat] at ho7; rw [← Ny339.out] at ho7)); have n0_ := As_ (Kd.R_lower ho7 (keep_size (w := w) (g := g) (row := none) (zk1_ HK.out GW338.out))); have n1_ := As_ (IsS72.below (by repeat (first | (with_reducible first | exact HI0.out | apply IsS72.alloc | apply IsS72.drewN | apply IsS72.drew | apply IsS72.set_1 | apply IsS72.set_2 | refine IsS72.far ?_ NB0_338.out _) | exact HI0.out)) hb); have n2_ := As_ (blk_below (g := gb338) (o := .cells #[.int .i64 0, .int .i64 0, .slice none 0 0] 24 (0, 0)) (ak_ BK338.out) hb); have n3_ := As_ (KeepBut.trans (zk1_ HK.out GW338.out) (KeepBut.of_below hb g none) (.inl rfl)); have n4_ := As_ (below_step (zb2_ HB.out (IsS72.ge HI0.out) GE338.out) hb); clear HI0 BK338 HK HB; have HO341 := n0_; have HI0 := n1_; have BK338 := n2_; have HK := n3_; have HB := n4_; clear n0_ n1_ n2_ n3_ n4_ hb ho7; obtain ⟨Ao8, co8, eo8⟩ := Kd.R_slice HO341.out; subst eo8) | ((with_reducible refine gate_callee (f := 54) rfl ?_); refine goesL_ (some 8) rfl rfl Try.func54 (by kernel_rfl) rfl #[.pointer (some ⟨g, 0, none⟩), .slice Ao8 y339.length co8] rfl tm_ ?_; (with_reducible refine (spec_l1Int.calls g s0_0 s0_1 s0_2 _ _ y339 t342 t343 t344 w0 _ ?side1 ?side2 ?side3 ?side4 ?side5 A2.out).mono ?_); (case side1 => repeat (first | (with_reducible first | exact HI0.out | apply IsS72.alloc | apply IsS72.drewN | apply IsS72.drew | apply IsS72.set_1 | apply IsS72.set_2 | refine IsS72.far ?_ NB0_338.out _) | exact HI0.out)); (case side2 => repeat (first | (with_reducible first | exact HB.out | apply bA_ | apply bN_ | apply bD_ | refine bS_ ?_ (IsS72.ge HI0.out) | refine bS_ ?_ GE338.out) | exact HB.out)); (case side3 => repeat (first | exact (Kd.R_reads' HO341.out).2.2 | (with_reducible first | apply cA_ | apply cN_ | apply cD_))); (case side4 => exact (Kd.R_reads' HO341.out).2.1); (case side5 => exact far_slice (IsS72.own_ne HI0.out HO341.out (by decide))); rintro e w9 ⟨rfl, hi, hb, hk⟩; refine ⟨_, rfl, ?_⟩; replace BK338 := As_ (KeepBut.blk hk (g' := gb338) (o := .cells #[.int .i64 0, .int .i64 0, .slice none 0 0] 24 (0, 0)) (ak_ BK338.out) NB338_0.out (by simp)); replace HO341 := As_ (Kd.R_mono (Kd.R_keep (IsS72.apart (show IsS72 w0 _ g s0_0 s0_1 s0_2 from by repeat (first | (with_reducible first | exact HI0.out | apply IsS72.alloc | apply IsS72.drewN | apply IsS72.drew | apply IsS72.set_1 | apply IsS72.set_2 | refine IsS72.far ?_ NB0_338.out _) | exact HI0.out)) (rk_ HO341.out) (by decide)) hk (fun _ h => h.2)) (fun _ h => h.1)); replace HK := As_ (KeepBut.trans (zk1_ HK.out GW338.out) hk (.inl rfl)); replace HB := As_ (hb); replace HI0 := As_ (hi); (try clear hb); (try clear hb2); (try clear hk); (try clear hi)) | ((with_reducible refine gate_callee (f := 13) rfl ?_); refine goesL_ (some 9) rfl rfl Try.func13 (by kernel_rfl) rfl #[.int .i64 t342] rfl tm_ ?_; (with_reducible refine (spec_FlowNew.calls t342 t345 t346 t347 _ A3.out).mono ?_); rintro e w10 ⟨v348, rfl, ho0, hb⟩; refine ⟨_, rfl, ?_⟩; replace HO341 := As_ (Kd.R_below (rk_ HO341.out) hb); have HO349 := As_ (Kd.R_lower ho0 (keep_size (w := w) (g := g) (row := none) (zk1_ HK.out GW338.out))); have n2_ := As_ (IsS72.below (by repeat (first | (with_reducible first | exact HI0.out | apply IsS72.alloc | apply IsS72.drewN | apply IsS72.drew | apply IsS72.set_1 | apply IsS72.set_2 | refine IsS72.far ?_ NB0_338.out _) | exact HI0.out)) hb); replace BK338 := As_ (blk_below (g := gb338) (o := .cells #[.int .i64 0, .int .i64 0, .slice none 0 0] 24 (0, 0)) (ak_ BK338.out) hb); replace HK := As_ (KeepBut.trans (zk1_ HK.out GW338.out) (KeepBut.of_below hb g none) (.inl rfl)); replace HB := As_ (below_step (zb2_ HB.out (IsS72.ge HI0.out) GE338.out) hb); clear HI0; have HI0 := n2_; clear n2_; (try clear hb); (try clear hb2); (try clear hk); (try clear hi); (try clear ho0)) | ((with_reducible refine gate_dst (N := 3) rfl ?_); refine box_event ?hg (N := 3) ?hd (cs := #[.int .i64 0, .int .i64 0, .slice none 0 0]) (t := 24) ?hr ?_; (case hd => rfl); (case hg => rfl); (case hr => first | (go_simp; done) | (go_simp; rfl)); intro gb350 hg w11 hbox hb; have n0_ := As_ (Kd.R_below (rk_ HO341.out) hb); have n1_ := As_ (Kd.R_below (rk_ HO349.out) hb); have n2_ := As_ (IsS72.below (by repeat (first | (with_reducible first | exact HI0.out | apply IsS72.alloc | apply IsS72.drewN | apply IsS72.drew | apply IsS72.set_1 | apply IsS72.set_2 | refine IsS72.far ?_ NB0_338.out _) | exact HI0.out)) hb); have n3_ := As_ (blk_below (g := gb338) (o := .cells #[.int .i64 0, .int .i64 0, .slice none 0 0] 24 (0, 0)) (ak_ BK338.out) hb); have n4_ := As_ (KeepBut.trans (zk1_ HK.out GW338.out) (KeepBut.of_below hb g none) (.inl rfl)); have n5_ := As_ (below_step (zb2_ HB.out (IsS72.ge HI0.out) GE338.out) hb); have n6_ := As_ (hbox); have n7_ := As_ ((sk_ hg (zk1_ HK.out GW338.out) : w.heap.size ≤ gb350)); have n8_ := As_ ((Nat.le_trans HW0.out (sk_ hg (zk1_ HK.out GW338.out) : w.heap.size ≤ gb350) : w0.heap.size ≤ gb350)); have n9_ := As_ ((nl_ hg BK338.out : gb338 ≠ gb350)); have n10_ := As_ ((ng_ hg BK338.out : gb350 ≠ gb338)); have n11_ := As_ ((by rw [hg]; exact Nat.ne_of_lt (IsS72.lt (show IsS72 w0 _ g s0_0 t343 t344 from by repeat (first | (with_reducible first | exact HI0.out | apply IsS72.alloc | apply IsS72.drewN | apply IsS72.drew | apply IsS72.set_1 | apply IsS72.set_2 | refine IsS72.far ?_ NB0_338.out _) | exact HI0.out))) : g ≠ gb350)); have n12_ := As_ ((by rw [hg]; exact Nat.ne_of_gt (IsS72.lt (show IsS72 w0 _ g s0_0 t343 t344 from by repeat (first | (with_reducible first | exact HI0.out | apply IsS72.alloc | apply IsS72.drewN | apply IsS72.drew | apply IsS72.set_1 | apply IsS72.set_2 | refine IsS72.far ?_ NB0_338.out _) | exact HI0.out))) : gb350 ≠ g)); clear HO341 HO349 HI0 BK338 HK HB; have HO341 := n0_; have HO349 := n1_; have HI0 := n2_; have BK338 := n3_; have HK := n4_; have HB := n5_; have BK350 := n6_; have GW350 := n7_; have GE350 := n8_; have NB338_350 := n9_; have NB350_338 := n10_; have NB0_350 := n11_; have NB350_0 := n12_; clear n0_ n1_ n2_ n3_ n4_ n5_ n6_ n7_ n8_ n9_ n10_ n11_ n12_ hb hbox hg; have hnb12 := NB350_338.out; have hnc12 := NB338_350.out; have hnb13 := NB350_0.out; have hnc13 := NB0_350.out; obtain ⟨hcz14_0, hcz14_1, hcz14_2, hfz14_0, hfz14_1, hfz14_2⟩ := blk_all3 BK350.out; obtain ⟨Ao15, co15, eo15⟩ := Kd.R_slice HO349.out; subst eo15) | ((with_reducible refine gate_callee (f := 60) rfl ?_); refine goesL_ (some 11) rfl rfl Try.func60 (by kernel_rfl) rfl #[.pointer (some ⟨g, 0, none⟩), .int .i64 6] rfl tm_ ?_; (with_reducible refine (spec_l1Below.calls g s0_0 t343 t344 6 t351 t352 t353 w0 _ ?side1 ?side2 A4.out).mono ?_); (case side1 => repeat (first | (with_reducible first | exact HI0.out | apply IsS72.alloc | apply IsS72.drewN | apply IsS72.drew | apply IsS72.set_1 | apply IsS72.set_2 | refine IsS72.far ?_ NB0_338.out _ | refine IsS72.far ?_ NB0_350.out _) | exact HI0.out)); (case side2 => repeat (first | (with_reducible first | exact HB.out | apply bA_ | apply bN_ | apply bD_ | refine bS_ ?_ (IsS72.ge HI0.out) | refine bS_ ?_ GE338.out | refine bS_ ?_ GE350.out) | exact HB.out)); rintro e w16 ⟨rfl, hi, hb, hk⟩; refine ⟨_, rfl, ?_⟩; replace BK338 := As_ (KeepBut.blk hk (g' := gb338) (o := .cells #[.int .i64 0, .int .i64 0, .slice none 0 0] 24 (0, 0)) (af_ NB338_350.out BK338.out) NB338_0.out (by simp)); replace HO341 := As_ (Kd.R_mono (Kd.R_keep (IsS72.apart (show IsS72 w0 _ g s0_0 t343 t344 from by repeat (first | (with_reducible first | exact HI0.out | apply IsS72.alloc | apply IsS72.drewN | apply IsS72.drew | apply IsS72.set_1 | apply IsS72.set_2 | refine IsS72.far ?_ NB0_338.out _ | refine IsS72.far ?_ NB0_350.out _) | exact HI0.out)) (rf3_ HO341.out BK350.out) (by decide)) hk (fun _ h => h.2)) (fun _ h => h.1)); replace HO349 := As_ (Kd.R_mono (Kd.R_keep (IsS72.apart (show IsS72 w0 _ g s0_0 t343 t344 from by repeat (first | (with_reducible first | exact HI0.out | apply IsS72.alloc | apply IsS72.drewN | apply IsS72.drew | apply IsS72.set_1 | apply IsS72.set_2 | refine IsS72.far ?_ NB0_338.out _ | refine IsS72.far ?_ NB0_350.out _) | exact HI0.out)) (rf3_ HO349.out BK350.out) (by decide)) hk (fun _ h => h.2)) (fun _ h => h.1)); replace BK350 := As_ (KeepBut.blk hk (g' := gb350) (o := .cells #[.int .i64 t345, .int .i64 t346, .slice Ao15 t347.length co15] 24 (0, 0)) (ap_ BK350.out) NB350_0.out (by simp)); replace HK := As_ (KeepBut.trans (zk2_ HK.out GW338.out GW350.out) hk (.inl rfl)); replace HB := As_ (hb); replace HI0 := As_ (hi); (try clear hb); (try clear hb2); (try clear hk); (try clear hi)))
  go_loopg [4] k (fun kq v4 w' => ∃ (x4_1 : Int) (x1001_1 : Int) (x1002_1 : Int) (x351000_1 : Int) (x351001_1 : Int) (x351002_1 : List (S48)) (u351002 : Value), v4 = .int .i64 x4_1 ∧ Aside0 (spec_l10Draw.l0 kq x4_1 s0_0 x1001_1 x1002_1 x351000_1 x351001_1 x351002_1 = some (r1, r2, r3, r4, r5)) ∧ Aside0 (kq ≤ k) ∧ Aside0 (Kd.R k48 48 w' w.heap.size (fun _ => True) u351002 x351002_1) ∧ Aside0 (w'.heap[gb338]? = some (.cells #[.int .i64 0, .int .i64 0, (.slice none 0 0)] 24 (0, 0))) ∧ Aside0 (w'.heap[gb350]? = some (.cells #[.int .i64 x351000_1, .int .i64 x351001_1, u351002] 24 (0, 0))) ∧ Aside0 (IsS72 w0 w' g s0_0 x1001_1 x1002_1) ∧ Aside0 (KeepBut w w' g none) ∧ Aside0 (Below w0.heap.size w0 w'))
  case atStart => exact ⟨(t351), (t352), (t353), (t345), (t346), (t347), (.slice Ao15 t347.length co15), (by first | rfl | (simp; done) | (simp [*]; done)), H', ⟨Nat.le_refl _⟩, ⟨rk_ HO349.out⟩, ⟨ak_ BK338.out⟩, ⟨ak_ BK350.out⟩, ⟨by repeat (first | (with_reducible first | exact HI0.out | apply IsS72.alloc | apply IsS72.drewN | apply IsS72.drew | apply IsS72.set_1 | apply IsS72.set_2 | refine IsS72.far ?_ NB0_338.out _ | refine IsS72.far ?_ NB0_350.out _) | exact HI0.out)⟩, ⟨zk2_ HK.out GW338.out GW350.out⟩, ⟨zb3_ HB.out (IsS72.ge HI0.out) GE338.out GE350.out⟩⟩
  case round =>
    clear H'
    try clear c1
    try clear p2
    try clear c5
    try clear c6
    try clear c12
    try clear c13
    try clear hcz14_0
    try clear hcz14_1
    try clear hcz14_2
    try clear hfz14_0
    try clear hfz14_1
    try clear hfz14_2
    obtain ⟨x4_1, x1001_1, x1002_1, x351000_1, x351001_1, x351002_1, u351002, rfl, HA, HK1, HO_351002, BK338, BK350, HI0, HK, HB⟩ := hrel
    cases gk with
    | zero => exact absurd HA.out (by simp [spec_l10Draw.l0])
    | succ k1 =>
      have H := HA.out
      clear HA
      simp only [spec_l10Draw.l0] at H
      by_cases c17 : x4_1 > 0
      · rw [if_pos c17] at H
        have c17b0 : decide (0 < x4_1) = true := decide_eq_true c17
        clear c17
        obtain ⟨y354, hy354⟩ : ∃ y_ : List Int, y_ = (([1, 3, 5] : List Int)) := ⟨_, rfl⟩
        replace H : ((spec_l1Int.f s0_0 x1001_1 x1002_1 y354).bind fun bt357 => ((spec_l1Below.f s0_0 bt357.2.1 bt357.2.2 5).bind fun bt360 => (if bt360.1 = 0 then (spec_l10Draw.j1 k1 x4_1 bt357.1 bt360.1 (bt360.1 == 0) s0_0 bt360.2.1 bt360.2.2 x351000_1 x351001_1 x351002_1) else (spec_l10Draw.j1 k1 x4_1 bt357.1 bt360.1 (bt360.1 == 1) s0_0 bt360.2.1 bt360.2.2 x351000_1 x351001_1 x351002_1)))) = some (r1, r2, r3, r4, r5) := by first | (rw [hy354]; with_reducible exact H) | (have H2_ := (Option.bind_some _ _).symm.trans H; rw [hy354]; with_reducible exact H2_) | (have H2_ := (Option.bind_some _ _).symm.trans H; with_reducible exact H2_) | with_reducible exact H | (rw [hy354]; exact H) | exact H
        have Ny354 := Aside0.mk hy354
        clear hy354
        replace H := Option.bind_eq_some_iff.mp H
        obtain ⟨⟨t357, t358, t359⟩, A180, H⟩ := H
        replace H : ((spec_l1Below.f s0_0 t358 t359 5).bind fun bt360 => (if bt360.1 = 0 then (spec_l10Draw.j1 k1 x4_1 t357 bt360.1 (bt360.1 == 0) s0_0 bt360.2.1 bt360.2.2 x351000_1 x351001_1 x351002_1) else (spec_l10Draw.j1 k1 x4_1 t357 bt360.1 (bt360.1 == 1) s0_0 bt360.2.1 bt360.2.2 x351000_1 x351001_1 x351002_1))) = some (r1, r2, r3, r4, r5) := H
        have A18 := Aside0.mk A180
        clear A180
        replace H := Option.bind_eq_some_iff.mp H
        obtain ⟨⟨t360, t361, t362⟩, A190, H⟩ := H
        replace H : (if t360 = 0 then (spec_l10Draw.j1 k1 x4_1 t357 t360 (t360 == 0) s0_0 t361 t362 x351000_1 x351001_1 x351002_1) else (spec_l10Draw.j1 k1 x4_1 t357 t360 (t360 == 1) s0_0 t361 t362 x351000_1 x351001_1 x351002_1)) = some (r1, r2, r3, r4, r5) := H
        have A19 := Aside0.mk A190
        clear A190
        have HC20 := Aside0.mk H
        clear H
        go_upto_if 29 with (first | ((with_reducible refine gate_dst (N := 17) rfl ?_); refine Kd.R_lit (Kd.int .i64) _ 3 ?hg (N := 17) ?hd (xs := ([1, 3, 5] : List Int)) (inner := [.int .i64 1, .int .i64 3, .int .i64 5]) (ok := fun _ => True) (okp := fun _ => True) ?hr ?hp (fun _ hk => hk) trivial (Below.refl _ _) (Nat.le_refl _) (by simp) ?_; (case hd => rfl); (case hg => rfl); (case hr => first | (go_simp; done) | (go_simp; rfl)); (case hp => exact (Reps.one (show Kd.M (Kd.int .i64) _ _ _ 1 [.int .i64 1] from rfl) (Reps.one (show Kd.M (Kd.int .i64) _ _ _ 3 [.int .i64 3] from rfl) (Reps.one (show Kd.M (Kd.int .i64) _ _ _ 5 [.int .i64 5] from rfl) (Reps.none _ _))))); intro v355 w21 ho22 hb hg_ hnew_; clear hg_ hnew_; (first | rw [← Ny354.out] at ho22 | (simp only [Int.reduceToNat] at ho22; rw [← Ny354.out] at ho22)); have n0_ := As_ (Kd.R_below (rk_ HO_351002.out) hb); have n1_ := As_ (Kd.R_lower ho22 (keep_size (w := w) (g := g) (row := none) (zk2_ HK.out GW338.out GW350.out))); have n2_ := As_ (blk_below (g := gb338) (o := .cells #[.int .i64 0, .int .i64 0, .slice none 0 0] 24 (0, 0)) (ak_ BK338.out) hb); have n3_ := As_ (blk_below (g := gb350) (o := .cells #[.int .i64 x351000_1, .int .i64 x351001_1, u351002] 24 (0, 0)) (ak_ BK350.out) hb); have n4_ := As_ (IsS72.below (by repeat (first | (with_reducible first | exact HI0.out | apply IsS72.alloc | apply IsS72.drewN | apply IsS72.drew | apply IsS72.set_1 | apply IsS72.set_2 | refine IsS72.far ?_ NB0_338.out _ | refine IsS72.far ?_ NB0_350.out _) | exact HI0.out)) hb); have n5_ := As_ (KeepBut.trans (zk2_ HK.out GW338.out GW350.out) (KeepBut.of_below hb g none) (.inl rfl)); have n6_ := As_ (below_step (zb3_ HB.out (IsS72.ge HI0.out) GE338.out GE350.out) hb); clear HO_351002 BK338 BK350 HI0 HK HB; have HO_351002 := n0_; have HO356 := n1_; have BK338 := n2_; have BK350 := n3_; have HI0 := n4_; have HK := n5_; have HB := n6_; clear n0_ n1_ n2_ n3_ n4_ n5_ n6_ hb ho22; obtain ⟨Ao23, co23, eo23⟩ := Kd.R_slice HO356.out; subst eo23) | ((with_reducible refine gate_callee (f := 54) rfl ?_); refine goesL_ (some 18) rfl rfl Try.func54 (by kernel_rfl) rfl #[.pointer (some ⟨g, 0, none⟩), .slice Ao23 y354.length co23] rfl tm_ ?_; (with_reducible refine (spec_l1Int.calls g s0_0 x1001_1 x1002_1 _ _ y354 t357 t358 t359 w0 _ ?side1 ?side2 ?side3 ?side4 ?side5 A18.out).mono ?_); (case side1 => repeat (first | (with_reducible first | exact HI0.out | apply IsS72.alloc | apply IsS72.drewN | apply IsS72.drew | apply IsS72.set_1 | apply IsS72.set_2 | refine IsS72.far ?_ NB0_338.out _ | refine IsS72.far ?_ NB0_350.out _) | exact HI0.out)); (case side2 => repeat (first | (with_reducible first | exact HB.out | apply bA_ | apply bN_ | apply bD_ | refine bS_ ?_ (IsS72.ge HI0.out) | refine bS_ ?_ GE338.out | refine bS_ ?_ GE350.out) | exact HB.out)); (case side3 => repeat (first | exact (Kd.R_reads' HO356.out).2.2 | (with_reducible first | apply cA_ | apply cN_ | apply cD_))); (case side4 => exact (Kd.R_reads' HO356.out).2.1); (case side5 => exact far_slice (IsS72.own_ne HI0.out HO356.out (by decide))); rintro e w24 ⟨rfl, hi, hb, hk⟩; refine ⟨_, rfl, ?_⟩; replace HO_351002 := As_ (Kd.R_mono (Kd.R_keep (IsS72.apart (show IsS72 w0 _ g s0_0 x1001_1 x1002_1 from by repeat (first | (with_reducible first | exact HI0.out | apply IsS72.alloc | apply IsS72.drewN | apply IsS72.drew | apply IsS72.set_1 | apply IsS72.set_2 | refine IsS72.far ?_ NB0_338.out _ | refine IsS72.far ?_ NB0_350.out _) | exact HI0.out)) (rk_ HO_351002.out) (by decide)) hk (fun _ h => h.2)) (fun _ h => h.1)); replace BK338 := As_ (KeepBut.blk hk (g' := gb338) (o := .cells #[.int .i64 0, .int .i64 0, .slice none 0 0] 24 (0, 0)) (ak_ BK338.out) NB338_0.out (by simp)); replace BK350 := As_ (KeepBut.blk hk (g' := gb350) (o := .cells #[.int .i64 x351000_1, .int .i64 x351001_1, u351002] 24 (0, 0)) (ak_ BK350.out) NB350_0.out (by simp)); replace HO356 := As_ (Kd.R_mono (Kd.R_keep (IsS72.apart (show IsS72 w0 _ g s0_0 x1001_1 x1002_1 from by repeat (first | (with_reducible first | exact HI0.out | apply IsS72.alloc | apply IsS72.drewN | apply IsS72.drew | apply IsS72.set_1 | apply IsS72.set_2 | refine IsS72.far ?_ NB0_338.out _ | refine IsS72.far ?_ NB0_350.out _) | exact HI0.out)) (rk_ HO356.out) (by decide)) hk (fun _ h => h.2)) (fun _ h => h.1)); replace HK := As_ (KeepBut.trans (zk2_ HK.out GW338.out GW350.out) hk (.inl rfl)); replace HB := As_ (hb); replace HI0 := As_ (hi); (try clear hb); (try clear hb2); (try clear hk); (try clear hi)) | ((with_reducible refine gate_callee (f := 60) rfl ?_); refine goesL_ (some 20) rfl rfl Try.func60 (by kernel_rfl) rfl #[.pointer (some ⟨g, 0, none⟩), .int .i64 5] rfl tm_ ?_; (with_reducible refine (spec_l1Below.calls g s0_0 t358 t359 5 t360 t361 t362 w0 _ ?side1 ?side2 A19.out).mono ?_); (case side1 => repeat (first | (with_reducible first | exact HI0.out | apply IsS72.alloc | apply IsS72.drewN | apply IsS72.drew | apply IsS72.set_1 | apply IsS72.set_2 | refine IsS72.far ?_ NB0_338.out _ | refine IsS72.far ?_ NB0_350.out _) | exact HI0.out)); (case side2 => repeat (first | (with_reducible first | exact HB.out | apply bA_ | apply bN_ | apply bD_ | refine bS_ ?_ (IsS72.ge HI0.out) | refine bS_ ?_ GE338.out | refine bS_ ?_ GE350.out) | exact HB.out)); rintro e w25 ⟨rfl, hi, hb, hk⟩; refine ⟨_, rfl, ?_⟩; replace HO_351002 := As_ (Kd.R_mono (Kd.R_keep (IsS72.apart (show IsS72 w0 _ g s0_0 t358 t359 from by repeat (first | (with_reducible first | exact HI0.out | apply IsS72.alloc | apply IsS72.drewN | apply IsS72.drew | apply IsS72.set_1 | apply IsS72.set_2 | refine IsS72.far ?_ NB0_338.out _ | refine IsS72.far ?_ NB0_350.out _) | exact HI0.out)) (rk_ HO_351002.out) (by decide)) hk (fun _ h => h.2)) (fun _ h => h.1)); replace BK338 := As_ (KeepBut.blk hk (g' := gb338) (o := .cells #[.int .i64 0, .int .i64 0, .slice none 0 0] 24 (0, 0)) (ak_ BK338.out) NB338_0.out (by simp)); replace BK350 := As_ (KeepBut.blk hk (g' := gb350) (o := .cells #[.int .i64 x351000_1, .int .i64 x351001_1, u351002] 24 (0, 0)) (ak_ BK350.out) NB350_0.out (by simp)); replace HO356 := As_ (Kd.R_mono (Kd.R_keep (IsS72.apart (show IsS72 w0 _ g s0_0 t358 t359 from by repeat (first | (with_reducible first | exact HI0.out | apply IsS72.alloc | apply IsS72.drewN | apply IsS72.drew | apply IsS72.set_1 | apply IsS72.set_2 | refine IsS72.far ?_ NB0_338.out _ | refine IsS72.far ?_ NB0_350.out _) | exact HI0.out)) (rk_ HO356.out) (by decide)) hk (fun _ h => h.2)) (fun _ h => h.1)); replace HK := As_ (KeepBut.trans (zk2_ HK.out GW338.out GW350.out) hk (.inl rfl)); replace HB := As_ (hb); replace HI0 := As_ (hi); (try clear hb); (try clear hb2); (try clear hk); (try clear hi)))
        (try simp only [Act.put, List.setIfInBounds_toArray, List.set_cons_zero, List.set_cons_succ])
        go_cut [29] (fun v29 wc => ∃ (kq : Nat) (x29_19 : Bool), v29 = .bool x29_19 ∧ Aside0 (spec_l10Draw.j1 kq x4_1 t357 t360 x29_19 s0_0 t361 t362 x351000_1 x351001_1 x351002_1 = some (r1, r2, r3, r4, r5)) ∧ Aside0 (kq ≤ k1) ∧ Aside0 (Kd.R k48 48 wc w.heap.size (fun _ => True) u351002 x351002_1) ∧ Aside0 (wc.heap[gb338]? = some (.cells #[.int .i64 0, .int .i64 0, (.slice none 0 0)] 24 (0, 0))) ∧ Aside0 (wc.heap[gb350]? = some (.cells #[.int .i64 x351000_1, .int .i64 x351001_1, u351002] 24 (0, 0))) ∧ Aside0 (IsS72 w0 wc g s0_0 t361 t362) ∧ Aside0 (KeepBut w wc g none) ∧ Aside0 (Below w0.heap.size w0 wc))
        case first =>
          have H := HC20.out
          clear HC20
          by_cases c26 : t360 = 0
          · rw [if_pos c26] at H
            have c26b0 : (t360 == 0) = true := beq_iff_eq.mpr c26
            have c26b1 : (t360 != 0) = false := bne_eq_false_iff_eq.mpr c26
            clear c26
            (first | rw [c26b0] | (simp only [i64_w, i32_w]; rw [c26b0]) | skip)
            have H' := Aside0.mk H
            clear H
            go_wp2
            go_meet
            case rel => exact ⟨_, ((t360 == 0)), (by first | rfl | (simp; done) | (simp [*]; done)), H', ⟨by have := HK1.out; first | omega | exact Nat.le_refl _⟩, ⟨rk_ HO_351002.out⟩, ⟨ak_ BK338.out⟩, ⟨ak_ BK350.out⟩, ⟨by repeat (first | (with_reducible first | exact HI0.out | apply IsS72.alloc | apply IsS72.drewN | apply IsS72.drew | apply IsS72.set_1 | apply IsS72.set_2 | refine IsS72.far ?_ NB0_338.out _ | refine IsS72.far ?_ NB0_350.out _) | exact HI0.out)⟩, ⟨zk2_ HK.out GW338.out GW350.out⟩, ⟨zb3_ HB.out (IsS72.ge HI0.out) GE338.out GE350.out⟩⟩
          · rw [if_neg c26] at H
            have c26b0 : (t360 == 0) = false := beq_eq_false_iff_ne.mpr c26
            have c26b1 : (t360 != 0) = true := bne_iff_ne.mpr c26
            (first | rw [c26b0] | (simp only [i64_w, i32_w]; rw [c26b0]) | skip)
            have H' := Aside0.mk H
            clear H
            go_wp2
            go_meet
            case rel => exact ⟨_, ((t360 == 1)), (by first | rfl | (simp; done) | (simp [*]; done)), H', ⟨by have := HK1.out; first | omega | exact Nat.le_refl _⟩, ⟨rk_ HO_351002.out⟩, ⟨ak_ BK338.out⟩, ⟨ak_ BK350.out⟩, ⟨by repeat (first | (with_reducible first | exact HI0.out | apply IsS72.alloc | apply IsS72.drewN | apply IsS72.drew | apply IsS72.set_1 | apply IsS72.set_2 | refine IsS72.far ?_ NB0_338.out _ | refine IsS72.far ?_ NB0_350.out _) | exact HI0.out)⟩, ⟨zk2_ HK.out GW338.out GW350.out⟩, ⟨zb3_ HB.out (IsS72.ge HI0.out) GE338.out GE350.out⟩⟩
        case rest =>
          clear HC20
          try clear c1
          try clear c2
          try clear p2
          try clear c5
          try clear c6
          try clear c12
          try clear c13
          try clear c17
          try clear c17b0
          try clear c26
          try clear c26b0
          try clear c26b1
          try clear hcz14_0
          try clear hcz14_1
          try clear hcz14_2
          try clear hfz14_0
          try clear hfz14_1
          try clear hfz14_2
          try clear p2
          obtain ⟨kq, x29_19, rfl, HA, HJ19, HO_351002, BK338, BK350, HI0, HK, HB⟩ := hcut
          cases kq with
          | zero => exact absurd HA.out (by simp [spec_l10Draw.j1])
          | succ kj19 =>
            have H := HA.out
            clear HA
            simp only [spec_l10Draw.j1] at H
            by_cases c27 : x29_19 = true
            · subst c27
              have H1 : ((spec_OpenLane.f kj19 x351000_1 x351001_1 x351002_1 t357).bind fun bt363 => (spec_l10Draw.l0 kj19 (wrap64 (x4_1 - 1)) s0_0 t361 t362 bt363.1 bt363.2.1 bt363.2.2.1)) = some (r1, r2, r3, r4, r5) := by rw [if_pos rfl] at H; exact H
              clear H
              have H := H1
              clear H1
              replace H := Option.bind_eq_some_iff.mp H
              obtain ⟨⟨t363, t364, t365, t368⟩, A280, H⟩ := H
              replace H : (spec_l10Draw.l0 kj19 (wrap64 (x4_1 - 1)) s0_0 t361 t362 t363 t364 t365) = some (r1, r2, r3, r4, r5) := H
              have A28 := Aside0.mk A280
              clear A280
              have H' := Aside0.mk H
              clear H
              have hnb29 := NB350_338.out
              have hnc29 := NB338_350.out
              have hnb30 := NB350_0.out
              have hnc30 := NB0_350.out
              obtain ⟨hcz31_0, hcz31_1, hcz31_2, hfz31_0, hfz31_1, hfz31_2⟩ := blk_all3 BK350.out
              obtain ⟨Ao32, co32, eo32⟩ := Kd.R_slice HO_351002.out
              subst eo32
              go_wp2_with (first | ((with_reducible refine gate_callee (f := 34) rfl ?_); refine goesL_ (some 35) rfl rfl Try.func34 (by kernel_rfl) rfl #[.agg #[.int .i64 x351000_1, .int .i64 x351001_1, .slice Ao32 x351002_1.length co32], .int .i64 t357] rfl tm_ ?_; (with_reducible refine (spec_OpenLane.calls kj19 x351000_1 x351001_1 _ _ x351002_1 t357 t363 t364 t365 t368 _ ?side1 ?side2 A28.out).mono ?_); (case side1 => repeat (first | exact (Kd.R_reads' HO_351002.out).2.2 | (with_reducible first | apply cA_ | apply cN_ | apply cD_))); (case side2 => exact (Kd.R_reads' HO_351002.out).2.1); rintro e w33 ⟨v366, rfl, ho0, hb⟩; refine ⟨_, rfl, ?_⟩; have n0_ := As_ (Kd.R_elder' (rk_ HO_351002.out) (Kd.R_base ho0) hb); have HO367 := As_ (Kd.R_lower (Kd.R_new' ho0 (Kd.R_lt (rk_ HO_351002.out))) (keep_size (w := w) (g := g) (row := none) (zk2_ HK.out GW338.out GW350.out))); replace BK338 := As_ (blk_below (g := gb338) (o := .cells #[.int .i64 0, .int .i64 0, .slice none 0 0] 24 (0, 0)) (ak_ BK338.out) hb); replace BK350 := As_ (blk_below (g := gb350) (o := .cells #[.int .i64 x351000_1, .int .i64 x351001_1, .slice Ao32 x351002_1.length co32] 24 (0, 0)) (ak_ BK350.out) hb); have n4_ := As_ (IsS72.below (by repeat (first | (with_reducible first | exact HI0.out | apply IsS72.alloc | apply IsS72.drewN | apply IsS72.drew | apply IsS72.set_1 | apply IsS72.set_2 | refine IsS72.far ?_ NB0_338.out _ | refine IsS72.far ?_ NB0_350.out _) | exact HI0.out)) hb); replace HK := As_ (KeepBut.trans (zk2_ HK.out GW338.out GW350.out) (KeepBut.of_below hb g none) (.inl rfl)); replace HB := As_ (below_step (zb3_ HB.out (IsS72.ge HI0.out) GE338.out GE350.out) hb); clear HO_351002 HI0; have HO_351002 := n0_; have HI0 := n4_; clear n0_ n4_; (try clear hb); (try clear hb2); (try clear hk); (try clear hi); (try clear ho0); obtain ⟨hcz34_0, hcz34_1, hcz34_2, hfz34_0, hfz34_1, hfz34_2⟩ := blk_all3 BK350.out; obtain ⟨Ao35, co35, eo35⟩ := Kd.R_slice HO367.out; subst eo35))
              go_roundg kj19
              case measure => have := HK1.out; have := HJ19.out; omega
              case rel => exact ⟨(wrap64 (x4_1 - 1)), (t361), (t362), (t363), (t364), (t365), (.slice Ao35 t365.length co35), (by first | rfl | (simp; done) | (simp [*]; done)), H', ⟨by have := HK1.out; have := HJ19.out; omega⟩, ⟨rt3_ HO367.out BK350.out⟩, ⟨af_ NB338_350.out BK338.out⟩, ⟨ap_ BK350.out⟩, ⟨by repeat (first | (with_reducible first | exact HI0.out | apply IsS72.alloc | apply IsS72.drewN | apply IsS72.drew | apply IsS72.set_1 | apply IsS72.set_2 | refine IsS72.far ?_ NB0_338.out _ | refine IsS72.far ?_ NB0_350.out _) | exact HI0.out)⟩, ⟨zk2_ HK.out GW338.out GW350.out⟩, ⟨zb3_ HB.out (IsS72.ge HI0.out) GE338.out GE350.out⟩⟩
            · replace c27 := Bool.eq_false_iff.mpr c27
              subst c27
              have H1 : (if t360 = 2 then ((spec_l1Int.f s0_0 t361 t362 (([1, 10, 50] : List Int))).bind fun bt372 => ((spec_Spend.f kj19 x351000_1 x351001_1 x351002_1 t357 bt372.1).bind fun bt375 => (spec_l10Draw.l0 kj19 (wrap64 (x4_1 - 1)) s0_0 bt372.2.1 bt372.2.2 bt375.1 bt375.2.1 bt375.2.2.1))) else (if t360 = 3 then ((spec_l1Int.f s0_0 t361 t362 (([0, t357] : List Int))).bind fun bt384 => ((spec_l1Int.f s0_0 bt384.2.1 bt384.2.2 (([1, 100] : List Int))).bind fun bt390 => ((spec_Grant.f kj19 x351000_1 x351001_1 x351002_1 bt384.1 bt390.1).bind fun bt393 => (spec_l10Draw.l0 kj19 (wrap64 (x4_1 - 1)) s0_0 bt390.2.1 bt390.2.2 bt393.1 bt393.2.1 bt393.2.2.1)))) else ((spec_l1Int.f s0_0 t361 t362 (([0, 50, 200] : List Int))).bind fun bt402 => ((spec_NewInit.f kj19 x351000_1 x351001_1 x351002_1 bt402.1).bind fun bt405 => (spec_l10Draw.l0 kj19 (wrap64 (x4_1 - 1)) s0_0 bt402.2.1 bt402.2.2 bt405.1 bt405.2.1 bt405.2.2.1))))) = some (r1, r2, r3, r4, r5) := by rw [if_neg (show ¬ (false = true) by decide)] at H; exact H
              clear H
              have H := H1
              clear H1
              by_cases c36 : t360 = 2
              · rw [if_pos c36] at H
                have c36b0 : (t360 == 2) = true := beq_iff_eq.mpr c36
                have c36b1 : (t360 != 2) = false := bne_eq_false_iff_eq.mpr c36
                clear c36
                obtain ⟨y369, hy369⟩ : ∃ y_ : List Int, y_ = (([1, 10, 50] : List Int)) := ⟨_, rfl⟩
                replace H : ((spec_l1Int.f s0_0 t361 t362 y369).bind fun bt372 => ((spec_Spend.f kj19 x351000_1 x351001_1 x351002_1 t357 bt372.1).bind fun bt375 => (spec_l10Draw.l0 kj19 (wrap64 (x4_1 - 1)) s0_0 bt372.2.1 bt372.2.2 bt375.1 bt375.2.1 bt375.2.2.1))) = some (r1, r2, r3, r4, r5) := by first | (rw [hy369]; with_reducible exact H) | (have H2_ := (Option.bind_some _ _).symm.trans H; rw [hy369]; with_reducible exact H2_) | (have H2_ := (Option.bind_some _ _).symm.trans H; with_reducible exact H2_) | with_reducible exact H | (rw [hy369]; exact H) | exact H
                have Ny369 := Aside0.mk hy369
                clear hy369
                replace H := Option.bind_eq_some_iff.mp H
                obtain ⟨⟨t372, t373, t374⟩, A370, H⟩ := H
                replace H : ((spec_Spend.f kj19 x351000_1 x351001_1 x351002_1 t357 t372).bind fun bt375 => (spec_l10Draw.l0 kj19 (wrap64 (x4_1 - 1)) s0_0 t373 t374 bt375.1 bt375.2.1 bt375.2.2.1)) = some (r1, r2, r3, r4, r5) := H
                have A37 := Aside0.mk A370
                clear A370
                replace H := Option.bind_eq_some_iff.mp H
                obtain ⟨⟨t375, t376, t377, t380⟩, A380, H⟩ := H
                replace H : (spec_l10Draw.l0 kj19 (wrap64 (x4_1 - 1)) s0_0 t373 t374 t375 t376 t377) = some (r1, r2, r3, r4, r5) := H
                have A38 := Aside0.mk A380
                clear A380
                have H' := Aside0.mk H
                clear H
                try go_wp2
                replace HO_351002 := As_ (Kd.R_drew HO_351002.out)
                replace BK338 := As_ (blk_drew BK338.out)
                replace BK350 := As_ (blk_drew BK350.out)
                replace HI0 := As_ (IsS72.drew HI0.out)
                replace HK := As_ (keep_drew HK.out)
                replace HB := As_ (below_drew1 HB.out)
                refine start_ (n := 10) (S := fun w' => w'.cell? ⟨gb350, 0, none⟩ = some (.int .i64 x351000_1) ∧ w'.cell? ⟨gb350, 1, none⟩ = some (.int .i64 x351001_1) ∧ w'.cell? ⟨gb350, 2, none⟩ = some (u351002)) (ds := [9]) #[false, false, false, false, false, false, false, false, false, false] (by kernel_rfl) rfl rfl ⟨(blk_cell BK350.out 0).trans rfl, (blk_cell BK350.out 1).trans rfl, (blk_cell BK350.out 2).trans rfl⟩ (fun hHeld => ?_); refine with_tabW spec_l10Draw.tab12 spec_l10Draw.bits12 (fun HT_ HW_ => ?_)
                generalize wc.drew = w39 at HO_351002 BK338 BK350 HI0 HK HB hHeld ⊢
                refine pure_ (i := 1) (N := some 42) (v := ?_) (a' := ?_) #[false, true, false, false, false, false, false, false, false, false] rfl rfl (any_of HT_.out (by kernel_rfl)) (fun _ _ _ h => h) (Or.inl ⟨by rfl, ?_⟩) ?_ ?_
                rotate_left
                · intro w'
                  go_simp
                  with_reducible rfl
                rotate_left
                · simp only [Act.put, List.setIfInBounds_toArray, List.set_cons_zero, List.set_cons_succ, i64_w, i32_w]
                  rfl
                refine pure_ (i := 2) (N := some 43) (v := ?_) (a' := ?_) #[false, true, true, false, false, false, false, false, false, false] rfl rfl (any_of HT_.out (by kernel_rfl)) (fun _ _ _ h => h) (Or.inl ⟨by rfl, ?_⟩) ?_ ?_
                rotate_left
                · intro w'
                  go_simp
                  with_reducible rfl
                rotate_left
                · simp only [Act.put, List.setIfInBounds_toArray, List.set_cons_zero, List.set_cons_succ, i64_w, i32_w]
                  rfl
                refine take_ (i := 0) (N := some 41) (v := ?_) (a' := ?_) #[true, true, true, false, false, false, false, false, false, false] rfl rfl (take_ofW HT_.out HW_.out (by kernel_rfl)) (fun _ _ _ h => h) (Or.inl ⟨by rfl, ?_⟩) hHeld ?_ ?_
                rotate_left
                · rintro w' ⟨s0, s1, s2⟩
                  go_simp
                  with_reducible rfl
                rotate_left
                · simp only [Act.put, List.setIfInBounds_toArray, List.set_cons_zero, List.set_cons_succ, i64_w, i32_w]
                  rfl
                refine one_ (i := 3) (N := some 44) #[true, true, true, true, false, false, false, false, false, false] rfl rfl (one_of HT_.out (by kernel_rfl)) (by decide) (fun K hK => ?_)
                refine Kd.R_lit_step (Kd.int .i64) _ 3 ?hg (N := 44) ?hd (xs := ([1, 10, 50] : List Int)) (inner := [.int .i64 1, .int .i64 10, .int .i64 50]) (ok := fun _ => True) (okp := fun _ => True) ?hr ?hp (fun _ hk => hk) trivial (Below.refl _ _) (Nat.le_refl _) (by simp) ?_; (case hd => rfl); (case hg => rfl); (case hr => first | (go_simp; done) | (go_simp; rfl)); (case hp => exact (Reps.one (show Kd.M (Kd.int .i64) _ _ _ 1 [.int .i64 1] from rfl) (Reps.one (show Kd.M (Kd.int .i64) _ _ _ 10 [.int .i64 10] from rfl) (Reps.one (show Kd.M (Kd.int .i64) _ _ _ 50 [.int .i64 50] from rfl) (Reps.none _ _)))))
                intro v370 w40 ho41 hb hg_ hnew_
                clear hg_ hnew_
                (first | rw [← Ny369.out] at ho41 | (simp only [Int.reduceToNat] at ho41; rw [← Ny369.out] at ho41))
                have n0_ := As_ (Kd.R_below (rk_ HO_351002.out) hb)
                have n1_ := As_ (Kd.R_lower ho41 (keep_size (w := w) (g := g) (row := none) (zk2_ HK.out GW338.out GW350.out)))
                have n2_ := As_ (blk_below (g := gb338) (o := .cells #[.int .i64 0, .int .i64 0, .slice none 0 0] 24 (0, 0)) (ak_ BK338.out) hb)
                have n3_ := As_ (blk_below (g := gb350) (o := .cells #[.int .i64 x351000_1, .int .i64 x351001_1, u351002] 24 (0, 0)) (ak_ BK350.out) hb)
                have n4_ := As_ (IsS72.below (by repeat (first | (with_reducible first | exact HI0.out | apply IsS72.alloc | apply IsS72.drewN | apply IsS72.drew | apply IsS72.set_1 | apply IsS72.set_2 | refine IsS72.far ?_ NB0_338.out _ | refine IsS72.far ?_ NB0_350.out _) | exact HI0.out)) hb)
                have n5_ := As_ (KeepBut.trans (zk2_ HK.out GW338.out GW350.out) (KeepBut.of_below hb g none) (.inl rfl))
                have n6_ := As_ (below_step (zb3_ HB.out (IsS72.ge HI0.out) GE338.out GE350.out) hb)
                clear HO_351002 BK338 BK350 HI0 HK HB
                have HO_351002 := n0_
                have HO371 := n1_
                have BK338 := n2_
                have BK350 := n3_
                have HI0 := n4_
                have HK := n5_
                have HB := n6_
                clear n0_ n1_ n2_ n3_ n4_ n5_ n6_ hb ho41
                obtain ⟨Ao42, co42, eo42⟩ := Kd.R_slice HO371.out
                (first | subst eo42 | (injection eo42 with f1_ f2_ f3_; have f4_ := f1_.symm; have f5_ := f3_.symm; clear f1_ f2_ f3_; subst f4_; subst f5_))
                refine hK.out _ _ ⟨(blk_cell BK350.out 0).trans rfl, (blk_cell BK350.out 1).trans rfl, (blk_cell BK350.out 2).trans rfl⟩ (fun hHeld => ?_)
                clear hK K
                refine norm_ (a' := ?_) ?_ ?_
                rotate_left
                · show Act.put _ (some 44) _ = _
                  simp only [Act.put, List.setIfInBounds_toArray, List.set_cons_zero, List.set_cons_succ, i64_w, i32_w]
                  rfl
                refine one_ (i := 4) (N := some 45) #[true, true, true, true, true, false, false, false, false, false] rfl rfl (one_of HT_.out (by kernel_rfl)) (by decide) (fun K hK => ?_)
                refine goes_ Try.func54 (by kernel_rfl) rfl #[.pointer (some ⟨g, 0, none⟩), .slice Ao42 y369.length co42] (by rfl) rfl rfl tm_ ?_
                with_reducible refine (spec_l1Int.calls g s0_0 t361 t362 _ _ y369 t372 t373 t374 w0 _ ?side1 ?side2 ?side3 ?side4 ?side5 A37.out).mono ?_
                (case side1 => repeat (first | (with_reducible first | exact HI0.out | apply IsS72.alloc | apply IsS72.drewN | apply IsS72.drew | apply IsS72.set_1 | apply IsS72.set_2 | refine IsS72.far ?_ NB0_338.out _ | refine IsS72.far ?_ NB0_350.out _) | exact HI0.out))
                (case side2 => repeat (first | (with_reducible first | exact HB.out | apply bA_ | apply bN_ | apply bD_ | refine bS_ ?_ (IsS72.ge HI0.out) | refine bS_ ?_ GE338.out | refine bS_ ?_ GE350.out) | exact HB.out))
                (case side3 => repeat (first | exact (Kd.R_reads' HO371.out).2.2 | (with_reducible first | apply cA_ | apply cN_ | apply cD_)))
                (case side4 => exact (Kd.R_reads' HO371.out).2.1)
                (case side5 => exact far_slice (IsS72.own_ne HI0.out HO371.out (by decide)))
                rintro e w43 ⟨rfl, hi, hb, hk⟩
                refine ⟨_, rfl, ?_⟩
                replace HO_351002 := As_ (Kd.R_mono (Kd.R_keep (IsS72.apart (show IsS72 w0 _ g s0_0 t361 t362 from by repeat (first | (with_reducible first | exact HI0.out | apply IsS72.alloc | apply IsS72.drewN | apply IsS72.drew | apply IsS72.set_1 | apply IsS72.set_2 | refine IsS72.far ?_ NB0_338.out _ | refine IsS72.far ?_ NB0_350.out _) | exact HI0.out)) (rk_ HO_351002.out) (by decide)) hk (fun _ h => h.2)) (fun _ h => h.1))
                replace BK338 := As_ (KeepBut.blk hk (g' := gb338) (o := .cells #[.int .i64 0, .int .i64 0, .slice none 0 0] 24 (0, 0)) (ak_ BK338.out) NB338_0.out (by simp))
                replace BK350 := As_ (KeepBut.blk hk (g' := gb350) (o := .cells #[.int .i64 x351000_1, .int .i64 x351001_1, u351002] 24 (0, 0)) (ak_ BK350.out) NB350_0.out (by simp))
                replace HO371 := As_ (Kd.R_mono (Kd.R_keep (IsS72.apart (show IsS72 w0 _ g s0_0 t361 t362 from by repeat (first | (with_reducible first | exact HI0.out | apply IsS72.alloc | apply IsS72.drewN | apply IsS72.drew | apply IsS72.set_1 | apply IsS72.set_2 | refine IsS72.far ?_ NB0_338.out _ | refine IsS72.far ?_ NB0_350.out _) | exact HI0.out)) (rk_ HO371.out) (by decide)) hk (fun _ h => h.2)) (fun _ h => h.1))
                replace HK := As_ (KeepBut.trans (zk2_ HK.out GW338.out GW350.out) hk (.inl rfl))
                replace HB := As_ (hb)
                replace HI0 := As_ (hi)
                (try clear hb)
                (try clear hb2)
                (try clear hk)
                (try clear hi)
                obtain ⟨Ao44, co44, eo44⟩ := Kd.R_slice HO_351002.out
                (first | subst eo44 | (injection eo44 with f1_ f2_ f3_; have f4_ := f1_.symm; have f5_ := f3_.symm; clear f1_ f2_ f3_; subst f4_; subst f5_))
                refine hK.out _ _ ⟨(blk_cell BK350.out 0).trans rfl, (blk_cell BK350.out 1).trans rfl, (blk_cell BK350.out 2).trans rfl⟩ (fun hHeld => ?_)
                clear hK K
                refine norm_ (a' := ?_) ?_ ?_
                rotate_left
                · show Act.put _ (some 45) _ = _
                  simp only [Act.put, List.setIfInBounds_toArray, List.set_cons_zero, List.set_cons_succ, i64_w, i32_w]
                  rfl
                refine one_ (i := 5) (N := some 46) #[true, true, true, true, true, true, false, false, false, false] rfl rfl (one_of HT_.out (by kernel_rfl)) (by decide) (fun K hK => ?_)
                refine goes_ Try.func30 (by kernel_rfl) rfl #[.agg #[.int .i64 x351000_1, .int .i64 x351001_1, .slice Ao44 x351002_1.length co44], .int .i64 t357, .int .i64 t372] (by rfl) rfl rfl tm_ ?_
                with_reducible refine (spec_Spend.calls kj19 x351000_1 x351001_1 _ _ x351002_1 t357 t372 t375 t376 t377 t380 _ ?side1 ?side2 A38.out).mono ?_
                (case side1 => repeat (first | exact (Kd.R_reads' HO_351002.out).2.2 | (with_reducible first | apply cA_ | apply cN_ | apply cD_)))
                (case side2 => exact (Kd.R_reads' HO_351002.out).2.1)
                rintro e w45 ⟨v378, rfl, ho0, hb⟩
                refine ⟨_, rfl, ?_⟩
                have n0_ := As_ (Kd.R_elder' (rk_ HO_351002.out) (Kd.R_base ho0) hb)
                replace HO371 := As_ (Kd.R_below (rk_ HO371.out) hb)
                have HO379 := As_ (Kd.R_lower (Kd.R_new' ho0 (Kd.R_lt (rk_ HO_351002.out))) (keep_size (w := w) (g := g) (row := none) (zk2_ HK.out GW338.out GW350.out)))
                replace BK338 := As_ (blk_below (g := gb338) (o := .cells #[.int .i64 0, .int .i64 0, .slice none 0 0] 24 (0, 0)) (ak_ BK338.out) hb)
                replace BK350 := As_ (blk_below (g := gb350) (o := .cells #[.int .i64 x351000_1, .int .i64 x351001_1, .slice Ao44 x351002_1.length co44] 24 (0, 0)) (ak_ BK350.out) hb)
                have n5_ := As_ (IsS72.below (by repeat (first | (with_reducible first | exact HI0.out | apply IsS72.alloc | apply IsS72.drewN | apply IsS72.drew | apply IsS72.set_1 | apply IsS72.set_2 | refine IsS72.far ?_ NB0_338.out _ | refine IsS72.far ?_ NB0_350.out _) | exact HI0.out)) hb)
                replace HK := As_ (KeepBut.trans (zk2_ HK.out GW338.out GW350.out) (KeepBut.of_below hb g none) (.inl rfl))
                replace HB := As_ (below_step (zb3_ HB.out (IsS72.ge HI0.out) GE338.out GE350.out) hb)
                clear HO_351002 HI0
                have HO_351002 := n0_
                have HI0 := n5_
                clear n0_ n5_
                (try clear hb)
                (try clear hb2)
                (try clear hk)
                (try clear hi)
                (try clear ho0)
                obtain ⟨Ao48, co48, eo48⟩ := Kd.R_slice HO379.out
                (first | subst eo48 | (injection eo48 with f1_ f2_ f3_; have f4_ := f1_.symm; have f5_ := f3_.symm; clear f1_ f2_ f3_; subst f4_; subst f5_))
                refine hK.out _ _ ⟨(blk_cell BK350.out 0).trans rfl, (blk_cell BK350.out 1).trans rfl, (blk_cell BK350.out 2).trans rfl⟩ (fun hHeld => ?_)
                clear hK K
                refine norm_ (a' := ?_) ?_ ?_
                rotate_left
                · show Act.put _ (some 46) _ = _
                  simp only [Act.put, List.setIfInBounds_toArray, List.set_cons_zero, List.set_cons_succ, i64_w, i32_w]
                  rfl
                refine pure_ (i := 6) (N := some 40) (v := ?_) (a' := ?_) #[true, true, true, true, true, true, true, false, false, false] rfl rfl (any_of HT_.out (by kernel_rfl)) (fun _ _ _ h => h) (Or.inl ⟨by rfl, ?_⟩) ?_ ?_
                rotate_left
                · intro w'
                  go_simp
                  with_reducible rfl
                rotate_left
                · simp only [Act.put, List.setIfInBounds_toArray, List.set_cons_zero, List.set_cons_succ, i64_w, i32_w]
                  rfl
                refine pure_ (i := 7) (N := some 47) (v := ?_) (a' := ?_) #[true, true, true, true, true, true, true, true, false, false] rfl rfl (any_of HT_.out (by kernel_rfl)) (fun _ _ _ h => h) (Or.inl ⟨by rfl, ?_⟩) ?_ ?_
                rotate_left
                · intro w'
                  go_simp
                  with_reducible rfl
                rotate_left
                · simp only [Act.put, List.setIfInBounds_toArray, List.set_cons_zero, List.set_cons_succ, i64_w, i32_w]
                  rfl
                refine pure_ (i := 8) (N := some 48) (v := ?_) (a' := ?_) #[true, true, true, true, true, true, true, true, true, false] rfl rfl (any_of HT_.out (by kernel_rfl)) (fun _ _ _ h => h) (Or.inl ⟨by rfl, ?_⟩) ?_ ?_
                rotate_left
                · intro w'
                  go_simp
                  with_reducible rfl
                rotate_left
                · simp only [Act.put, List.setIfInBounds_toArray, List.set_cons_zero, List.set_cons_succ, i64_w, i32_w]
                  rfl
                refine last_ (i := 9) (N := none) #[true, true, true, true, true, true, true, true, true, true] rfl rfl (one_of HT_.out (by kernel_rfl)) (by decide) (fun K hK => ?_)
                have hs46 : w45.cell? ⟨gb350, 0, none⟩ = some (.int .i64 x351000_1) := (blk_cell BK350.out 0).trans rfl
                have hfs46 := blk_frozen BK350.out 0
                have hns46_0 := NB338_350.out
                have hms46_0 := NB350_338.out
                have hs47 : w45.cell? ⟨gb350, 1, none⟩ = some (.int .i64 x351001_1) := (blk_cell BK350.out 1).trans rfl
                have hfs47 := blk_frozen BK350.out 1
                have hns47_0 := NB338_350.out
                have hms47_0 := NB350_338.out
                have hs49 : w45.cell? ⟨gb350, 2, none⟩ = some (.slice Ao44 x351002_1.length co44) := (blk_cell BK350.out 2).trans rfl
                have hfs49 := blk_frozen BK350.out 2
                have hns49_0 := NB338_350.out
                have hms49_0 := NB350_338.out
                refine skip_ (w1 := ?_) (by rfl) rfl ?_ ?_
                rotate_left
                · go_simp
                  rfl
                refine hK.out _ _ ?_
                clear hK K
                refine done_ (done_of HT_.out (by kernel_rfl)) ?_
                try go_wp2
                go_roundg kj19
                case measure => have := HK1.out; have := HJ19.out; omega
                case rel => exact ⟨(wrap64 (x4_1 - 1)), (t373), (t374), (t375), (t376), (t377), (.slice Ao48 t377.length co48), (by first | rfl | (simp; done) | (simp [*]; done)), H', ⟨by have := HK1.out; have := HJ19.out; omega⟩, ⟨rt3_ HO379.out BK350.out⟩, ⟨af_ NB338_350.out BK338.out⟩, ⟨ap_ BK350.out⟩, ⟨by repeat (first | (with_reducible first | exact HI0.out | apply IsS72.alloc | apply IsS72.drewN | apply IsS72.drew | apply IsS72.set_1 | apply IsS72.set_2 | refine IsS72.far ?_ NB0_338.out _ | refine IsS72.far ?_ NB0_350.out _) | exact HI0.out)⟩, ⟨zk2_ HK.out GW338.out GW350.out⟩, ⟨zb3_ HB.out (IsS72.ge HI0.out) GE338.out GE350.out⟩⟩
              · rw [if_neg c36] at H
                have c36b0 : (t360 == 2) = false := beq_eq_false_iff_ne.mpr c36
                have c36b1 : (t360 != 2) = true := bne_iff_ne.mpr c36
                by_cases c50 : t360 = 3
                · rw [if_pos c50] at H
                  have c50b0 : (t360 == 3) = true := beq_iff_eq.mpr c50
                  have c50b1 : (t360 != 3) = false := bne_eq_false_iff_eq.mpr c50
                  clear c50
                  obtain ⟨y381, hy381⟩ : ∃ y_ : List Int, y_ = (([0, t357] : List Int)) := ⟨_, rfl⟩
                  replace H : ((spec_l1Int.f s0_0 t361 t362 y381).bind fun bt384 => ((spec_l1Int.f s0_0 bt384.2.1 bt384.2.2 (([1, 100] : List Int))).bind fun bt390 => ((spec_Grant.f kj19 x351000_1 x351001_1 x351002_1 bt384.1 bt390.1).bind fun bt393 => (spec_l10Draw.l0 kj19 (wrap64 (x4_1 - 1)) s0_0 bt390.2.1 bt390.2.2 bt393.1 bt393.2.1 bt393.2.2.1)))) = some (r1, r2, r3, r4, r5) := by first | (rw [hy381]; with_reducible exact H) | (have H2_ := (Option.bind_some _ _).symm.trans H; rw [hy381]; with_reducible exact H2_) | (have H2_ := (Option.bind_some _ _).symm.trans H; with_reducible exact H2_) | with_reducible exact H | (rw [hy381]; exact H) | exact H
                  have Ny381 := Aside0.mk hy381
                  clear hy381
                  replace H := Option.bind_eq_some_iff.mp H
                  obtain ⟨⟨t384, t385, t386⟩, A510, H⟩ := H
                  replace H : ((spec_l1Int.f s0_0 t385 t386 (([1, 100] : List Int))).bind fun bt390 => ((spec_Grant.f kj19 x351000_1 x351001_1 x351002_1 t384 bt390.1).bind fun bt393 => (spec_l10Draw.l0 kj19 (wrap64 (x4_1 - 1)) s0_0 bt390.2.1 bt390.2.2 bt393.1 bt393.2.1 bt393.2.2.1))) = some (r1, r2, r3, r4, r5) := H
                  have A51 := Aside0.mk A510
                  clear A510
                  obtain ⟨y387, hy387⟩ : ∃ y_ : List Int, y_ = (([1, 100] : List Int)) := ⟨_, rfl⟩
                  replace H : ((spec_l1Int.f s0_0 t385 t386 y387).bind fun bt390 => ((spec_Grant.f kj19 x351000_1 x351001_1 x351002_1 t384 bt390.1).bind fun bt393 => (spec_l10Draw.l0 kj19 (wrap64 (x4_1 - 1)) s0_0 bt390.2.1 bt390.2.2 bt393.1 bt393.2.1 bt393.2.2.1))) = some (r1, r2, r3, r4, r5) := by first | (rw [hy387]; with_reducible exact H) | (have H2_ := (Option.bind_some _ _).symm.trans H; rw [hy387]; with_reducible exact H2_) | (have H2_ := (Option.bind_some _ _).symm.trans H; with_reducible exact H2_) | with_reducible exact H | (rw [hy387]; exact H) | exact H
                  have Ny387 := Aside0.mk hy387
                  clear hy387
                  replace H := Option.bind_eq_some_iff.mp H
                  obtain ⟨⟨t390, t391, t392⟩, A520, H⟩ := H
                  replace H : ((spec_Grant.f kj19 x351000_1 x351001_1 x351002_1 t384 t390).bind fun bt393 => (spec_l10Draw.l0 kj19 (wrap64 (x4_1 - 1)) s0_0 t391 t392 bt393.1 bt393.2.1 bt393.2.2.1)) = some (r1, r2, r3, r4, r5) := H
                  have A52 := Aside0.mk A520
                  clear A520
                  replace H := Option.bind_eq_some_iff.mp H
                  obtain ⟨⟨t393, t394, t395, t398⟩, A530, H⟩ := H
                  replace H : (spec_l10Draw.l0 kj19 (wrap64 (x4_1 - 1)) s0_0 t391 t392 t393 t394 t395) = some (r1, r2, r3, r4, r5) := H
                  have A53 := Aside0.mk A530
                  clear A530
                  have H' := Aside0.mk H
                  clear H
                  obtain ⟨Ao54, co54, eo54⟩ := Kd.R_slice HO_351002.out
                  subst eo54
                  try go_wp2
                  replace HO_351002 := As_ (Kd.R_drew HO_351002.out)
                  replace BK338 := As_ (blk_drew BK338.out)
                  replace BK350 := As_ (blk_drew BK350.out)
                  replace HI0 := As_ (IsS72.drew HI0.out)
                  replace HK := As_ (keep_drew HK.out)
                  replace HB := As_ (below_drew1 HB.out)
                  refine start_ (n := 13) (S := fun w' => w'.cell? ⟨gb350, 0, none⟩ = some (.int .i64 x351000_1) ∧ w'.cell? ⟨gb350, 1, none⟩ = some (.int .i64 x351001_1) ∧ w'.cell? ⟨gb350, 2, none⟩ = some (.slice Ao54 x351002_1.length co54)) (ds := [12]) #[false, false, false, false, false, false, false, false, false, false, false, false, false] (by kernel_rfl) rfl rfl ⟨(blk_cell BK350.out 0).trans rfl, (blk_cell BK350.out 1).trans rfl, (blk_cell BK350.out 2).trans rfl⟩ (fun hHeld => ?_); refine with_tabW spec_l10Draw.tab14 spec_l10Draw.bits14 (fun HT_ HW_ => ?_)
                  generalize wc.drew = w55 at HO_351002 BK338 BK350 HI0 HK HB hHeld ⊢
                  refine pure_ (i := 1) (N := some 53) (v := ?_) (a' := ?_) #[false, true, false, false, false, false, false, false, false, false, false, false, false] rfl rfl (any_of HT_.out (by kernel_rfl)) (fun _ _ _ h => h) (Or.inl ⟨by rfl, ?_⟩) ?_ ?_
                  rotate_left
                  · intro w'
                    go_simp
                    with_reducible rfl
                  rotate_left
                  · simp only [Act.put, List.setIfInBounds_toArray, List.set_cons_zero, List.set_cons_succ, i64_w, i32_w]
                    rfl
                  refine pure_ (i := 2) (N := some 54) (v := ?_) (a' := ?_) #[false, true, true, false, false, false, false, false, false, false, false, false, false] rfl rfl (any_of HT_.out (by kernel_rfl)) (fun _ _ _ h => h) (Or.inl ⟨by rfl, ?_⟩) ?_ ?_
                  rotate_left
                  · intro w'
                    go_simp
                    with_reducible rfl
                  rotate_left
                  · simp only [Act.put, List.setIfInBounds_toArray, List.set_cons_zero, List.set_cons_succ, i64_w, i32_w]
                    rfl
                  refine pure_ (i := 5) (N := some 57) (v := ?_) (a' := ?_) #[false, true, true, false, false, true, false, false, false, false, false, false, false] rfl rfl (any_of HT_.out (by kernel_rfl)) (fun _ _ _ h => h) (Or.inl ⟨by rfl, ?_⟩) ?_ ?_
                  rotate_left
                  · intro w'
                    go_simp
                    with_reducible rfl
                  rotate_left
                  · simp only [Act.put, List.setIfInBounds_toArray, List.set_cons_zero, List.set_cons_succ, i64_w, i32_w]
                    rfl
                  refine take_ (i := 0) (N := some 52) (v := ?_) (a' := ?_) #[true, true, true, false, false, true, false, false, false, false, false, false, false] rfl rfl (take_ofW HT_.out HW_.out (by kernel_rfl)) (fun _ _ _ h => h) (Or.inl ⟨by rfl, ?_⟩) hHeld ?_ ?_
                  rotate_left
                  · rintro w' ⟨s0, s1, s2⟩
                    go_simp
                    with_reducible rfl
                  rotate_left
                  · simp only [Act.put, List.setIfInBounds_toArray, List.set_cons_zero, List.set_cons_succ, i64_w, i32_w]
                    rfl
                  refine join_ (σ := Value × Value) 6 #[true, true, true, true, true, true, true, false, false, false, false, false, false] (fun s_ => [(55, s_.1), (56, .int .i64 t384), (58, s_.2)]) (fun s_ w' => (w'.cell? ⟨gb350, 0, none⟩ = some (.int .i64 x351000_1) ∧ w'.cell? ⟨gb350, 1, none⟩ = some (.int .i64 x351001_1) ∧ w'.cell? ⟨gb350, 2, none⟩ = some (.slice Ao54 x351002_1.length co54)) ∧ (Kd.R (Kd.int .i64) 3 w' w.heap.size (fun k_ => some k_ ≠ (s_.2 : Value).ownBlock) s_.1 y381) ∧ (Kd.R (Kd.int .i64) 3 w' w.heap.size (fun k_ => some k_ ≠ (s_.1 : Value).ownBlock) s_.2 y387) ∧ (Kd.R k48 48 w' w.heap.size (fun _ => True) (.slice Ao54 x351002_1.length co54) x351002_1) ∧ (w'.heap[gb338]? = some (.cells #[.int .i64 0, .int .i64 0, .slice none 0 0] 24 (0, 0))) ∧ (w'.heap[gb350]? = some (.cells #[.int .i64 x351000_1, .int .i64 x351001_1, .slice Ao54 x351002_1.length co54] 24 (0, 0))) ∧ (IsS72 w0 w' g s0_0 t385 t386) ∧ (KeepBut w w' g none) ∧ (Below w0.heap.size w0 w')) ?_ ?_
                  rotate_left
                  · intro hCont
                    refine two_ (i := 3) (j := 6) (Ni := some 55) (Nj := some 58) #[true, true, true, true, false, true, false, false, false, false, false, false, false] #[true, true, true, false, false, true, true, false, false, false, false, false, false] rfl rfl rfl rfl (two_of HT_.out (by kernel_rfl)) (by decide) (by decide) (fun K hK => ?_) (fun K hK => ?_)
                    · skip
                      refine Kd.R_lit_step (Kd.int .i64) _ 3 ?hg (N := 55) ?hd (xs := ([0, t357] : List Int)) (inner := [.int .i64 0, .int .i64 t357]) (ok := fun _ => True) (okp := fun _ => True) ?hr ?hp (fun _ hk => hk) trivial (Below.refl _ _) (Nat.le_refl _) (by simp) ?_; (case hd => rfl); (case hg => rfl); (case hr => first | (go_simp; done) | (go_simp; rfl)); (case hp => exact (Reps.one (show Kd.M (Kd.int .i64) _ _ _ 0 [.int .i64 0] from rfl) (Reps.one (show Kd.M (Kd.int .i64) _ _ _ t357 [.int .i64 t357] from rfl) (Reps.none _ _))))
                      intro v382 w56 ho57 hb hg_ hnew_
                      clear hg_ hnew_
                      (first | rw [← Ny381.out] at ho57 | (simp only [Int.reduceToNat] at ho57; rw [← Ny381.out] at ho57))
                      have n0_ := As_ (Kd.R_below (rk_ HO_351002.out) hb)
                      have n1_ := As_ (Kd.R_lower ho57 (keep_size (w := w) (g := g) (row := none) (zk2_ HK.out GW338.out GW350.out)))
                      have n2_ := As_ (blk_below (g := gb338) (o := .cells #[.int .i64 0, .int .i64 0, .slice none 0 0] 24 (0, 0)) (ak_ BK338.out) hb)
                      have n3_ := As_ (blk_below (g := gb350) (o := .cells #[.int .i64 x351000_1, .int .i64 x351001_1, .slice Ao54 x351002_1.length co54] 24 (0, 0)) (ak_ BK350.out) hb)
                      have n4_ := As_ (IsS72.below (by repeat (first | (with_reducible first | exact HI0.out | apply IsS72.alloc | apply IsS72.drewN | apply IsS72.drew | apply IsS72.set_1 | apply IsS72.set_2 | refine IsS72.far ?_ NB0_338.out _ | refine IsS72.far ?_ NB0_350.out _) | exact HI0.out)) hb)
                      have n5_ := As_ (KeepBut.trans (zk2_ HK.out GW338.out GW350.out) (KeepBut.of_below hb g none) (.inl rfl))
                      have n6_ := As_ (below_step (zb3_ HB.out (IsS72.ge HI0.out) GE338.out GE350.out) hb)
                      clear HO_351002 BK338 BK350 HI0 HK HB
                      have HO_351002 := n0_
                      have HO383 := n1_
                      have BK338 := n2_
                      have BK350 := n3_
                      have HI0 := n4_
                      have HK := n5_
                      have HB := n6_
                      clear n0_ n1_ n2_ n3_ n4_ n5_ n6_ hb ho57
                      obtain ⟨Ao58, co58, eo58⟩ := Kd.R_slice HO383.out
                      (first | subst eo58 | (injection eo58 with f1_ f2_ f3_; have f4_ := f1_.symm; have f5_ := f3_.symm; clear f1_ f2_ f3_; subst f4_; subst f5_))
                      refine hK.out _ _ ⟨(blk_cell BK350.out 0).trans rfl, (blk_cell BK350.out 1).trans rfl, (blk_cell BK350.out 2).trans rfl⟩ (fun hHeld => ?_)
                      clear hK K
                      refine norm_ (a' := ?_) ?_ ?_
                      rotate_left
                      · show Act.put _ (some 55) _ = _
                        simp only [Act.put, List.setIfInBounds_toArray, List.set_cons_zero, List.set_cons_succ, i64_w, i32_w]
                        rfl
                      refine two_ (i := 4) (j := 6) (Ni := some 56) (Nj := some 58) #[true, true, true, true, true, true, false, false, false, false, false, false, false] #[true, true, true, true, false, true, true, false, false, false, false, false, false] rfl rfl rfl rfl (two_of HT_.out (by kernel_rfl)) (by decide) (by decide) (fun K hK => ?_) (fun K hK => ?_)
                      · skip
                        refine goes_ Try.func54 (by kernel_rfl) rfl #[.pointer (some ⟨g, 0, none⟩), .slice Ao58 y381.length co58] (by rfl) rfl rfl tm_ ?_
                        with_reducible refine (spec_l1Int.calls g s0_0 t361 t362 _ _ y381 t384 t385 t386 w0 _ ?side1 ?side2 ?side3 ?side4 ?side5 A51.out).mono ?_
                        (case side1 => repeat (first | (with_reducible first | exact HI0.out | apply IsS72.alloc | apply IsS72.drewN | apply IsS72.drew | apply IsS72.set_1 | apply IsS72.set_2 | refine IsS72.far ?_ NB0_338.out _ | refine IsS72.far ?_ NB0_350.out _) | exact HI0.out))
                        (case side2 => repeat (first | (with_reducible first | exact HB.out | apply bA_ | apply bN_ | apply bD_ | refine bS_ ?_ (IsS72.ge HI0.out) | refine bS_ ?_ GE338.out | refine bS_ ?_ GE350.out) | exact HB.out))
                        (case side3 => repeat (first | exact (Kd.R_reads' HO383.out).2.2 | (with_reducible first | apply cA_ | apply cN_ | apply cD_)))
                        (case side4 => exact (Kd.R_reads' HO383.out).2.1)
                        (case side5 => exact far_slice (IsS72.own_ne HI0.out HO383.out (by decide)))
                        rintro e w59 ⟨rfl, hi, hb, hk⟩
                        refine ⟨_, rfl, ?_⟩
                        replace HO_351002 := As_ (Kd.R_mono (Kd.R_keep (IsS72.apart (show IsS72 w0 _ g s0_0 t361 t362 from by repeat (first | (with_reducible first | exact HI0.out | apply IsS72.alloc | apply IsS72.drewN | apply IsS72.drew | apply IsS72.set_1 | apply IsS72.set_2 | refine IsS72.far ?_ NB0_338.out _ | refine IsS72.far ?_ NB0_350.out _) | exact HI0.out)) (rk_ HO_351002.out) (by decide)) hk (fun _ h => h.2)) (fun _ h => h.1))
                        replace BK338 := As_ (KeepBut.blk hk (g' := gb338) (o := .cells #[.int .i64 0, .int .i64 0, .slice none 0 0] 24 (0, 0)) (ak_ BK338.out) NB338_0.out (by simp))
                        replace BK350 := As_ (KeepBut.blk hk (g' := gb350) (o := .cells #[.int .i64 x351000_1, .int .i64 x351001_1, .slice Ao54 x351002_1.length co54] 24 (0, 0)) (ak_ BK350.out) NB350_0.out (by simp))
                        replace HO383 := As_ (Kd.R_mono (Kd.R_keep (IsS72.apart (show IsS72 w0 _ g s0_0 t361 t362 from by repeat (first | (with_reducible first | exact HI0.out | apply IsS72.alloc | apply IsS72.drewN | apply IsS72.drew | apply IsS72.set_1 | apply IsS72.set_2 | refine IsS72.far ?_ NB0_338.out _ | refine IsS72.far ?_ NB0_350.out _) | exact HI0.out)) (rk_ HO383.out) (by decide)) hk (fun _ h => h.2)) (fun _ h => h.1))
                        replace HK := As_ (KeepBut.trans (zk2_ HK.out GW338.out GW350.out) hk (.inl rfl))
                        replace HB := As_ (hb)
                        replace HI0 := As_ (hi)
                        (try clear hb)
                        (try clear hb2)
                        (try clear hk)
                        (try clear hi)
                        refine hK.out _ _ ⟨(blk_cell BK350.out 0).trans rfl, (blk_cell BK350.out 1).trans rfl, (blk_cell BK350.out 2).trans rfl⟩ (fun hHeld => ?_)
                        clear hK K
                        refine norm_ (a' := ?_) ?_ ?_
                        rotate_left
                        · show Act.put _ (some 56) _ = _
                          simp only [Act.put, List.setIfInBounds_toArray, List.set_cons_zero, List.set_cons_succ, i64_w, i32_w]
                          rfl
                        refine one_ (i := 6) (N := some 58) #[true, true, true, true, true, true, true, false, false, false, false, false, false] rfl rfl (one_of HT_.out (by kernel_rfl)) (by decide) (fun K hK => ?_)
                        refine Kd.R_lit_step (Kd.int .i64) _ 3 ?hg (N := 58) ?hd (xs := ([1, 100] : List Int)) (inner := [.int .i64 1, .int .i64 100]) (ok := fun _ => True) (okp := fun _ => True) ?hr ?hp (fun _ hk => hk) trivial (Below.refl _ _) (Nat.le_refl _) (by simp) ?_; (case hd => rfl); (case hg => rfl); (case hr => first | (go_simp; done) | (go_simp; rfl)); (case hp => exact (Reps.one (show Kd.M (Kd.int .i64) _ _ _ 1 [.int .i64 1] from rfl) (Reps.one (show Kd.M (Kd.int .i64) _ _ _ 100 [.int .i64 100] from rfl) (Reps.none _ _))))
                        intro v388 w60 ho61 hb hg_ hnew_
                        clear hg_ hnew_
                        (first | rw [← Ny387.out] at ho61 | (simp only [Int.reduceToNat] at ho61; rw [← Ny387.out] at ho61))
                        have n0_ := As_ (Kd.R_below (rk_ HO_351002.out) hb)
                        have n1_ := As_ (Kd.R_elder' (rk_ HO383.out) (Kd.R_base ho61) hb)
                        have n2_ := As_ (Kd.R_lower (Kd.R_new' ho61 (Kd.R_lt (rk_ HO383.out))) (keep_size (w := w) (g := g) (row := none) (zk2_ HK.out GW338.out GW350.out)))
                        have n3_ := As_ (blk_below (g := gb338) (o := .cells #[.int .i64 0, .int .i64 0, .slice none 0 0] 24 (0, 0)) (ak_ BK338.out) hb)
                        have n4_ := As_ (blk_below (g := gb350) (o := .cells #[.int .i64 x351000_1, .int .i64 x351001_1, .slice Ao54 x351002_1.length co54] 24 (0, 0)) (ak_ BK350.out) hb)
                        have n5_ := As_ (IsS72.below (by repeat (first | (with_reducible first | exact HI0.out | apply IsS72.alloc | apply IsS72.drewN | apply IsS72.drew | apply IsS72.set_1 | apply IsS72.set_2 | refine IsS72.far ?_ NB0_338.out _ | refine IsS72.far ?_ NB0_350.out _) | exact HI0.out)) hb)
                        have n6_ := As_ (KeepBut.trans (zk2_ HK.out GW338.out GW350.out) (KeepBut.of_below hb g none) (.inl rfl))
                        have n7_ := As_ (below_step (zb3_ HB.out (IsS72.ge HI0.out) GE338.out GE350.out) hb)
                        clear HO_351002 HO383 BK338 BK350 HI0 HK HB
                        have HO_351002 := n0_
                        have HO383 := n1_
                        have HO389 := n2_
                        have BK338 := n3_
                        have BK350 := n4_
                        have HI0 := n5_
                        have HK := n6_
                        have HB := n7_
                        clear n0_ n1_ n2_ n3_ n4_ n5_ n6_ n7_ hb ho61
                        refine hK.out _ _ ⟨(blk_cell BK350.out 0).trans rfl, (blk_cell BK350.out 1).trans rfl, (blk_cell BK350.out 2).trans rfl⟩ (fun hHeld => ?_)
                        clear hK K
                        refine norm_ (a' := ?_) ?_ ?_
                        rotate_left
                        · show Act.put _ (some 58) _ = _
                          simp only [Act.put, List.setIfInBounds_toArray, List.set_cons_zero, List.set_cons_succ, i64_w, i32_w]
                          rfl
                        exact norm_ (by simp only [putAll, Act.put, List.setIfInBounds_toArray, List.set_cons_zero, List.set_cons_succ]) (hCont (.slice Ao58 y381.length co58, v388) _ ⟨hHeld, (by (with_reducible repeat (first | apply rA_ | apply rN_ | apply rD_)); exact Kd.R_mono HO383.out (fun _ hk => hk.2)), (by (with_reducible repeat (first | apply rA_ | apply rN_ | apply rD_)); exact Kd.R_mono HO389.out (fun _ hk => hk.2)), (rk_ HO_351002.out), (ak_ BK338.out), (ak_ BK350.out), (by repeat (first | (with_reducible first | exact HI0.out | apply IsS72.alloc | apply IsS72.drewN | apply IsS72.drew | apply IsS72.set_1 | apply IsS72.set_2 | refine IsS72.far ?_ NB0_338.out _ | refine IsS72.far ?_ NB0_350.out _) | exact HI0.out)), (zk2_ HK.out GW338.out GW350.out), (zb3_ HB.out (IsS72.ge HI0.out) GE338.out GE350.out)⟩)
                      · skip
                        refine Kd.R_lit_step (Kd.int .i64) _ 3 ?hg (N := 58) ?hd (xs := ([1, 100] : List Int)) (inner := [.int .i64 1, .int .i64 100]) (ok := fun _ => True) (okp := fun _ => True) ?hr ?hp (fun _ hk => hk) trivial (Below.refl _ _) (Nat.le_refl _) (by simp) ?_; (case hd => rfl); (case hg => rfl); (case hr => first | (go_simp; done) | (go_simp; rfl)); (case hp => exact (Reps.one (show Kd.M (Kd.int .i64) _ _ _ 1 [.int .i64 1] from rfl) (Reps.one (show Kd.M (Kd.int .i64) _ _ _ 100 [.int .i64 100] from rfl) (Reps.none _ _))))
                        intro v388 w58 ho59 hb hg_ hnew_
                        clear hg_ hnew_
                        (first | rw [← Ny387.out] at ho59 | (simp only [Int.reduceToNat] at ho59; rw [← Ny387.out] at ho59))
                        have n0_ := As_ (Kd.R_below (rk_ HO_351002.out) hb)
                        have n1_ := As_ (Kd.R_elder' (rk_ HO383.out) (Kd.R_base ho59) hb)
                        have n2_ := As_ (Kd.R_lower (Kd.R_new' ho59 (Kd.R_lt (rk_ HO383.out))) (keep_size (w := w) (g := g) (row := none) (zk2_ HK.out GW338.out GW350.out)))
                        have n3_ := As_ (blk_below (g := gb338) (o := .cells #[.int .i64 0, .int .i64 0, .slice none 0 0] 24 (0, 0)) (ak_ BK338.out) hb)
                        have n4_ := As_ (blk_below (g := gb350) (o := .cells #[.int .i64 x351000_1, .int .i64 x351001_1, .slice Ao54 x351002_1.length co54] 24 (0, 0)) (ak_ BK350.out) hb)
                        have n5_ := As_ (IsS72.below (by repeat (first | (with_reducible first | exact HI0.out | apply IsS72.alloc | apply IsS72.drewN | apply IsS72.drew | apply IsS72.set_1 | apply IsS72.set_2 | refine IsS72.far ?_ NB0_338.out _ | refine IsS72.far ?_ NB0_350.out _) | exact HI0.out)) hb)
                        have n6_ := As_ (KeepBut.trans (zk2_ HK.out GW338.out GW350.out) (KeepBut.of_below hb g none) (.inl rfl))
                        have n7_ := As_ (below_step (zb3_ HB.out (IsS72.ge HI0.out) GE338.out GE350.out) hb)
                        clear HO_351002 HO383 BK338 BK350 HI0 HK HB
                        have HO_351002 := n0_
                        have HO383 := n1_
                        have HO389 := n2_
                        have BK338 := n3_
                        have BK350 := n4_
                        have HI0 := n5_
                        have HK := n6_
                        have HB := n7_
                        clear n0_ n1_ n2_ n3_ n4_ n5_ n6_ n7_ hb ho59
                        obtain ⟨Ao60, co60, eo60⟩ := Kd.R_slice HO383.out
                        (first | subst eo60 | (injection eo60 with f1_ f2_ f3_; have f4_ := f1_.symm; have f5_ := f3_.symm; clear f1_ f2_ f3_; subst f4_; subst f5_))
                        refine hK.out _ _ ⟨(blk_cell BK350.out 0).trans rfl, (blk_cell BK350.out 1).trans rfl, (blk_cell BK350.out 2).trans rfl⟩ (fun hHeld => ?_)
                        clear hK K
                        refine norm_ (a' := ?_) ?_ ?_
                        rotate_left
                        · show Act.put _ (some 58) _ = _
                          simp only [Act.put, List.setIfInBounds_toArray, List.set_cons_zero, List.set_cons_succ, i64_w, i32_w]
                          rfl
                        refine one_ (i := 4) (N := some 56) #[true, true, true, true, true, true, true, false, false, false, false, false, false] rfl rfl (one_of HT_.out (by kernel_rfl)) (by decide) (fun K hK => ?_)
                        refine goes_ Try.func54 (by kernel_rfl) rfl #[.pointer (some ⟨g, 0, none⟩), .slice Ao60 y381.length co60] (by rfl) rfl rfl tm_ ?_
                        with_reducible refine (spec_l1Int.calls g s0_0 t361 t362 _ _ y381 t384 t385 t386 w0 _ ?side1 ?side2 ?side3 ?side4 ?side5 A51.out).mono ?_
                        (case side1 => repeat (first | (with_reducible first | exact HI0.out | apply IsS72.alloc | apply IsS72.drewN | apply IsS72.drew | apply IsS72.set_1 | apply IsS72.set_2 | refine IsS72.far ?_ NB0_338.out _ | refine IsS72.far ?_ NB0_350.out _) | exact HI0.out))
                        (case side2 => repeat (first | (with_reducible first | exact HB.out | apply bA_ | apply bN_ | apply bD_ | refine bS_ ?_ (IsS72.ge HI0.out) | refine bS_ ?_ GE338.out | refine bS_ ?_ GE350.out) | exact HB.out))
                        (case side3 => repeat (first | exact (Kd.R_reads' HO383.out).2.2 | (with_reducible first | apply cA_ | apply cN_ | apply cD_)))
                        (case side4 => exact (Kd.R_reads' HO383.out).2.1)
                        (case side5 => exact far_slice (IsS72.own_ne HI0.out HO383.out (by decide)))
                        rintro e w61 ⟨rfl, hi, hb, hk⟩
                        refine ⟨_, rfl, ?_⟩
                        replace HO_351002 := As_ (Kd.R_mono (Kd.R_keep (IsS72.apart (show IsS72 w0 _ g s0_0 t361 t362 from by repeat (first | (with_reducible first | exact HI0.out | apply IsS72.alloc | apply IsS72.drewN | apply IsS72.drew | apply IsS72.set_1 | apply IsS72.set_2 | refine IsS72.far ?_ NB0_338.out _ | refine IsS72.far ?_ NB0_350.out _) | exact HI0.out)) (rk_ HO_351002.out) (by decide)) hk (fun _ h => h.2)) (fun _ h => h.1))
                        replace BK338 := As_ (KeepBut.blk hk (g' := gb338) (o := .cells #[.int .i64 0, .int .i64 0, .slice none 0 0] 24 (0, 0)) (ak_ BK338.out) NB338_0.out (by simp))
                        replace BK350 := As_ (KeepBut.blk hk (g' := gb350) (o := .cells #[.int .i64 x351000_1, .int .i64 x351001_1, .slice Ao54 x351002_1.length co54] 24 (0, 0)) (ak_ BK350.out) NB350_0.out (by simp))
                        replace HO383 := As_ (Kd.R_mono (Kd.R_keep (IsS72.apart (show IsS72 w0 _ g s0_0 t361 t362 from by repeat (first | (with_reducible first | exact HI0.out | apply IsS72.alloc | apply IsS72.drewN | apply IsS72.drew | apply IsS72.set_1 | apply IsS72.set_2 | refine IsS72.far ?_ NB0_338.out _ | refine IsS72.far ?_ NB0_350.out _) | exact HI0.out)) (rk_ HO383.out) (by decide)) hk (fun _ h => h.2)) (fun _ h => h.1))
                        replace HO389 := As_ (Kd.R_mono (Kd.R_keep (IsS72.apart (show IsS72 w0 _ g s0_0 t361 t362 from by repeat (first | (with_reducible first | exact HI0.out | apply IsS72.alloc | apply IsS72.drewN | apply IsS72.drew | apply IsS72.set_1 | apply IsS72.set_2 | refine IsS72.far ?_ NB0_338.out _ | refine IsS72.far ?_ NB0_350.out _) | exact HI0.out)) (rk_ HO389.out) (by decide)) hk (fun _ h => h.2)) (fun _ h => h.1))
                        replace HK := As_ (KeepBut.trans (zk2_ HK.out GW338.out GW350.out) hk (.inl rfl))
                        replace HB := As_ (hb)
                        replace HI0 := As_ (hi)
                        (try clear hb)
                        (try clear hb2)
                        (try clear hk)
                        (try clear hi)
                        refine hK.out _ _ ⟨(blk_cell BK350.out 0).trans rfl, (blk_cell BK350.out 1).trans rfl, (blk_cell BK350.out 2).trans rfl⟩ (fun hHeld => ?_)
                        clear hK K
                        refine norm_ (a' := ?_) ?_ ?_
                        rotate_left
                        · show Act.put _ (some 56) _ = _
                          simp only [Act.put, List.setIfInBounds_toArray, List.set_cons_zero, List.set_cons_succ, i64_w, i32_w]
                          rfl
                        exact norm_ (by simp only [putAll, Act.put, List.setIfInBounds_toArray, List.set_cons_zero, List.set_cons_succ]) (hCont (.slice Ao60 y381.length co60, v388) _ ⟨hHeld, (by (with_reducible repeat (first | apply rA_ | apply rN_ | apply rD_)); exact Kd.R_mono HO383.out (fun _ hk => hk.2)), (by (with_reducible repeat (first | apply rA_ | apply rN_ | apply rD_)); exact Kd.R_mono HO389.out (fun _ hk => hk.2)), (rk_ HO_351002.out), (ak_ BK338.out), (ak_ BK350.out), (by repeat (first | (with_reducible first | exact HI0.out | apply IsS72.alloc | apply IsS72.drewN | apply IsS72.drew | apply IsS72.set_1 | apply IsS72.set_2 | refine IsS72.far ?_ NB0_338.out _ | refine IsS72.far ?_ NB0_350.out _) | exact HI0.out)), (zk2_ HK.out GW338.out GW350.out), (zb3_ HB.out (IsS72.ge HI0.out) GE338.out GE350.out)⟩)
                    · skip
                      refine Kd.R_lit_step (Kd.int .i64) _ 3 ?hg (N := 58) ?hd (xs := ([1, 100] : List Int)) (inner := [.int .i64 1, .int .i64 100]) (ok := fun _ => True) (okp := fun _ => True) ?hr ?hp (fun _ hk => hk) trivial (Below.refl _ _) (Nat.le_refl _) (by simp) ?_; (case hd => rfl); (case hg => rfl); (case hr => first | (go_simp; done) | (go_simp; rfl)); (case hp => exact (Reps.one (show Kd.M (Kd.int .i64) _ _ _ 1 [.int .i64 1] from rfl) (Reps.one (show Kd.M (Kd.int .i64) _ _ _ 100 [.int .i64 100] from rfl) (Reps.none _ _))))
                      intro v388 w56 ho57 hb hg_ hnew_
                      clear hg_ hnew_
                      (first | rw [← Ny387.out] at ho57 | (simp only [Int.reduceToNat] at ho57; rw [← Ny387.out] at ho57))
                      have n0_ := As_ (Kd.R_below (rk_ HO_351002.out) hb)
                      have n1_ := As_ (Kd.R_lower ho57 (keep_size (w := w) (g := g) (row := none) (zk2_ HK.out GW338.out GW350.out)))
                      have n2_ := As_ (blk_below (g := gb338) (o := .cells #[.int .i64 0, .int .i64 0, .slice none 0 0] 24 (0, 0)) (ak_ BK338.out) hb)
                      have n3_ := As_ (blk_below (g := gb350) (o := .cells #[.int .i64 x351000_1, .int .i64 x351001_1, .slice Ao54 x351002_1.length co54] 24 (0, 0)) (ak_ BK350.out) hb)
                      have n4_ := As_ (IsS72.below (by repeat (first | (with_reducible first | exact HI0.out | apply IsS72.alloc | apply IsS72.drewN | apply IsS72.drew | apply IsS72.set_1 | apply IsS72.set_2 | refine IsS72.far ?_ NB0_338.out _ | refine IsS72.far ?_ NB0_350.out _) | exact HI0.out)) hb)
                      have n5_ := As_ (KeepBut.trans (zk2_ HK.out GW338.out GW350.out) (KeepBut.of_below hb g none) (.inl rfl))
                      have n6_ := As_ (below_step (zb3_ HB.out (IsS72.ge HI0.out) GE338.out GE350.out) hb)
                      clear HO_351002 BK338 BK350 HI0 HK HB
                      have HO_351002 := n0_
                      have HO389 := n1_
                      have BK338 := n2_
                      have BK350 := n3_
                      have HI0 := n4_
                      have HK := n5_
                      have HB := n6_
                      clear n0_ n1_ n2_ n3_ n4_ n5_ n6_ hb ho57
                      refine hK.out _ _ ⟨(blk_cell BK350.out 0).trans rfl, (blk_cell BK350.out 1).trans rfl, (blk_cell BK350.out 2).trans rfl⟩ (fun hHeld => ?_)
                      clear hK K
                      refine norm_ (a' := ?_) ?_ ?_
                      rotate_left
                      · show Act.put _ (some 58) _ = _
                        simp only [Act.put, List.setIfInBounds_toArray, List.set_cons_zero, List.set_cons_succ, i64_w, i32_w]
                        rfl
                      refine one_ (i := 3) (N := some 55) #[true, true, true, true, false, true, true, false, false, false, false, false, false] rfl rfl (one_of HT_.out (by kernel_rfl)) (by decide) (fun K hK => ?_)
                      refine Kd.R_lit_step (Kd.int .i64) _ 3 ?hg (N := 55) ?hd (xs := ([0, t357] : List Int)) (inner := [.int .i64 0, .int .i64 t357]) (ok := fun _ => True) (okp := fun _ => True) ?hr ?hp (fun _ hk => hk) trivial (Below.refl _ _) (Nat.le_refl _) (by simp) ?_; (case hd => rfl); (case hg => rfl); (case hr => first | (go_simp; done) | (go_simp; rfl)); (case hp => exact (Reps.one (show Kd.M (Kd.int .i64) _ _ _ 0 [.int .i64 0] from rfl) (Reps.one (show Kd.M (Kd.int .i64) _ _ _ t357 [.int .i64 t357] from rfl) (Reps.none _ _))))
                      intro v382 w58 ho59 hb hg_ hnew_
                      clear hg_ hnew_
                      (first | rw [← Ny381.out] at ho59 | (simp only [Int.reduceToNat] at ho59; rw [← Ny381.out] at ho59))
                      have n0_ := As_ (Kd.R_below (rk_ HO_351002.out) hb)
                      have n1_ := As_ (Kd.R_elder' (rk_ HO389.out) (Kd.R_base ho59) hb)
                      have n2_ := As_ (Kd.R_lower (Kd.R_new' ho59 (Kd.R_lt (rk_ HO389.out))) (keep_size (w := w) (g := g) (row := none) (zk2_ HK.out GW338.out GW350.out)))
                      have n3_ := As_ (blk_below (g := gb338) (o := .cells #[.int .i64 0, .int .i64 0, .slice none 0 0] 24 (0, 0)) (ak_ BK338.out) hb)
                      have n4_ := As_ (blk_below (g := gb350) (o := .cells #[.int .i64 x351000_1, .int .i64 x351001_1, .slice Ao54 x351002_1.length co54] 24 (0, 0)) (ak_ BK350.out) hb)
                      have n5_ := As_ (IsS72.below (by repeat (first | (with_reducible first | exact HI0.out | apply IsS72.alloc | apply IsS72.drewN | apply IsS72.drew | apply IsS72.set_1 | apply IsS72.set_2 | refine IsS72.far ?_ NB0_338.out _ | refine IsS72.far ?_ NB0_350.out _) | exact HI0.out)) hb)
                      have n6_ := As_ (KeepBut.trans (zk2_ HK.out GW338.out GW350.out) (KeepBut.of_below hb g none) (.inl rfl))
                      have n7_ := As_ (below_step (zb3_ HB.out (IsS72.ge HI0.out) GE338.out GE350.out) hb)
                      clear HO_351002 HO389 BK338 BK350 HI0 HK HB
                      have HO_351002 := n0_
                      have HO389 := n1_
                      have HO383 := n2_
                      have BK338 := n3_
                      have BK350 := n4_
                      have HI0 := n5_
                      have HK := n6_
                      have HB := n7_
                      clear n0_ n1_ n2_ n3_ n4_ n5_ n6_ n7_ hb ho59
                      obtain ⟨Ao60, co60, eo60⟩ := Kd.R_slice HO383.out
                      (first | subst eo60 | (injection eo60 with f1_ f2_ f3_; have f4_ := f1_.symm; have f5_ := f3_.symm; clear f1_ f2_ f3_; subst f4_; subst f5_))
                      refine hK.out _ _ ⟨(blk_cell BK350.out 0).trans rfl, (blk_cell BK350.out 1).trans rfl, (blk_cell BK350.out 2).trans rfl⟩ (fun hHeld => ?_)
                      clear hK K
                      refine norm_ (a' := ?_) ?_ ?_
                      rotate_left
                      · show Act.put _ (some 55) _ = _
                        simp only [Act.put, List.setIfInBounds_toArray, List.set_cons_zero, List.set_cons_succ, i64_w, i32_w]
                        rfl
                      refine one_ (i := 4) (N := some 56) #[true, true, true, true, true, true, true, false, false, false, false, false, false] rfl rfl (one_of HT_.out (by kernel_rfl)) (by decide) (fun K hK => ?_)
                      refine goes_ Try.func54 (by kernel_rfl) rfl #[.pointer (some ⟨g, 0, none⟩), .slice Ao60 y381.length co60] (by rfl) rfl rfl tm_ ?_
                      with_reducible refine (spec_l1Int.calls g s0_0 t361 t362 _ _ y381 t384 t385 t386 w0 _ ?side1 ?side2 ?side3 ?side4 ?side5 A51.out).mono ?_
                      (case side1 => repeat (first | (with_reducible first | exact HI0.out | apply IsS72.alloc | apply IsS72.drewN | apply IsS72.drew | apply IsS72.set_1 | apply IsS72.set_2 | refine IsS72.far ?_ NB0_338.out _ | refine IsS72.far ?_ NB0_350.out _) | exact HI0.out))
                      (case side2 => repeat (first | (with_reducible first | exact HB.out | apply bA_ | apply bN_ | apply bD_ | refine bS_ ?_ (IsS72.ge HI0.out) | refine bS_ ?_ GE338.out | refine bS_ ?_ GE350.out) | exact HB.out))
                      (case side3 => repeat (first | exact (Kd.R_reads' HO383.out).2.2 | (with_reducible first | apply cA_ | apply cN_ | apply cD_)))
                      (case side4 => exact (Kd.R_reads' HO383.out).2.1)
                      (case side5 => exact far_slice (IsS72.own_ne HI0.out HO383.out (by decide)))
                      rintro e w61 ⟨rfl, hi, hb, hk⟩
                      refine ⟨_, rfl, ?_⟩
                      replace HO_351002 := As_ (Kd.R_mono (Kd.R_keep (IsS72.apart (show IsS72 w0 _ g s0_0 t361 t362 from by repeat (first | (with_reducible first | exact HI0.out | apply IsS72.alloc | apply IsS72.drewN | apply IsS72.drew | apply IsS72.set_1 | apply IsS72.set_2 | refine IsS72.far ?_ NB0_338.out _ | refine IsS72.far ?_ NB0_350.out _) | exact HI0.out)) (rk_ HO_351002.out) (by decide)) hk (fun _ h => h.2)) (fun _ h => h.1))
                      replace BK338 := As_ (KeepBut.blk hk (g' := gb338) (o := .cells #[.int .i64 0, .int .i64 0, .slice none 0 0] 24 (0, 0)) (ak_ BK338.out) NB338_0.out (by simp))
                      replace BK350 := As_ (KeepBut.blk hk (g' := gb350) (o := .cells #[.int .i64 x351000_1, .int .i64 x351001_1, .slice Ao54 x351002_1.length co54] 24 (0, 0)) (ak_ BK350.out) NB350_0.out (by simp))
                      replace HO389 := As_ (Kd.R_mono (Kd.R_keep (IsS72.apart (show IsS72 w0 _ g s0_0 t361 t362 from by repeat (first | (with_reducible first | exact HI0.out | apply IsS72.alloc | apply IsS72.drewN | apply IsS72.drew | apply IsS72.set_1 | apply IsS72.set_2 | refine IsS72.far ?_ NB0_338.out _ | refine IsS72.far ?_ NB0_350.out _) | exact HI0.out)) (rk_ HO389.out) (by decide)) hk (fun _ h => h.2)) (fun _ h => h.1))
                      replace HO383 := As_ (Kd.R_mono (Kd.R_keep (IsS72.apart (show IsS72 w0 _ g s0_0 t361 t362 from by repeat (first | (with_reducible first | exact HI0.out | apply IsS72.alloc | apply IsS72.drewN | apply IsS72.drew | apply IsS72.set_1 | apply IsS72.set_2 | refine IsS72.far ?_ NB0_338.out _ | refine IsS72.far ?_ NB0_350.out _) | exact HI0.out)) (rk_ HO383.out) (by decide)) hk (fun _ h => h.2)) (fun _ h => h.1))
                      replace HK := As_ (KeepBut.trans (zk2_ HK.out GW338.out GW350.out) hk (.inl rfl))
                      replace HB := As_ (hb)
                      replace HI0 := As_ (hi)
                      (try clear hb)
                      (try clear hb2)
                      (try clear hk)
                      (try clear hi)
                      refine hK.out _ _ ⟨(blk_cell BK350.out 0).trans rfl, (blk_cell BK350.out 1).trans rfl, (blk_cell BK350.out 2).trans rfl⟩ (fun hHeld => ?_)
                      clear hK K
                      refine norm_ (a' := ?_) ?_ ?_
                      rotate_left
                      · show Act.put _ (some 56) _ = _
                        simp only [Act.put, List.setIfInBounds_toArray, List.set_cons_zero, List.set_cons_succ, i64_w, i32_w]
                        rfl
                      exact norm_ (by simp only [putAll, Act.put, List.setIfInBounds_toArray, List.set_cons_zero, List.set_cons_succ]) (hCont (.slice Ao60 y381.length co60, v388) _ ⟨hHeld, (by (with_reducible repeat (first | apply rA_ | apply rN_ | apply rD_)); exact Kd.R_mono HO383.out (fun _ hk => hk.2)), (by (with_reducible repeat (first | apply rA_ | apply rN_ | apply rD_)); exact Kd.R_mono HO389.out (fun _ hk => hk.2)), (rk_ HO_351002.out), (ak_ BK338.out), (ak_ BK350.out), (by repeat (first | (with_reducible first | exact HI0.out | apply IsS72.alloc | apply IsS72.drewN | apply IsS72.drew | apply IsS72.set_1 | apply IsS72.set_2 | refine IsS72.far ?_ NB0_338.out _ | refine IsS72.far ?_ NB0_350.out _) | exact HI0.out)), (zk2_ HK.out GW338.out GW350.out), (zb3_ HB.out (IsS72.ge HI0.out) GE338.out GE350.out)⟩)
                  rintro ⟨v382, v388⟩ w62 ⟨hS_, h0_, h1_, h2_, h3_, h4_, h5_, h6_, h7_⟩
                  have HO383 : Aside0 (Kd.R (Kd.int .i64) 3 w62 w.heap.size (fun k_ => some k_ ≠ (v388 : Value).ownBlock) v382 y381) := ⟨h0_⟩
                  have HO389 : Aside0 (Kd.R (Kd.int .i64) 3 w62 w.heap.size (fun k_ => some k_ ≠ (v382 : Value).ownBlock) v388 y387) := ⟨h1_⟩
                  replace HO_351002 : Aside0 (Kd.R k48 48 w62 w.heap.size (fun _ => True) (.slice Ao54 x351002_1.length co54) x351002_1) := ⟨h2_⟩
                  replace BK338 : Aside0 (w62.heap[gb338]? = some (.cells #[.int .i64 0, .int .i64 0, .slice none 0 0] 24 (0, 0))) := ⟨h3_⟩
                  replace BK350 : Aside0 (w62.heap[gb350]? = some (.cells #[.int .i64 x351000_1, .int .i64 x351001_1, .slice Ao54 x351002_1.length co54] 24 (0, 0))) := ⟨h4_⟩
                  replace HI0 : Aside0 (IsS72 w0 w62 g s0_0 t385 t386) := ⟨h5_⟩
                  replace HK : Aside0 (KeepBut w w62 g none) := ⟨h6_⟩
                  replace HB : Aside0 (Below w0.heap.size w0 w62) := ⟨h7_⟩
                  clear h0_ h1_ h2_ h3_ h4_ h5_ h6_ h7_
                  have hHeld : w62.cell? ⟨gb350, 0, none⟩ = some (.int .i64 x351000_1) ∧ w62.cell? ⟨gb350, 1, none⟩ = some (.int .i64 x351001_1) ∧ w62.cell? ⟨gb350, 2, none⟩ = some (.slice Ao54 x351002_1.length co54) := hS_
                  obtain ⟨Ao63, co63, eo63⟩ := Kd.R_slice HO389.out
                  (first | subst eo63 | (injection eo63 with f1_ f2_ f3_; have f4_ := f1_.symm; have f5_ := f3_.symm; clear f1_ f2_ f3_; subst f4_; subst f5_))
                  refine norm_ (a' := ?_) ?_ ?_
                  rotate_left
                  · simp only [putAll, Act.put, List.setIfInBounds_toArray, List.set_cons_zero, List.set_cons_succ]
                    rfl
                  refine one_ (i := 7) (N := some 59) #[true, true, true, true, true, true, true, true, false, false, false, false, false] rfl rfl (one_of HT_.out (by kernel_rfl)) (by decide) (fun K hK => ?_)
                  refine goes_ Try.func54 (by kernel_rfl) rfl #[.pointer (some ⟨g, 0, none⟩), .slice Ao63 y387.length co63] (by rfl) rfl rfl tm_ ?_
                  with_reducible refine (spec_l1Int.calls g s0_0 t385 t386 _ _ y387 t390 t391 t392 w0 _ ?side1 ?side2 ?side3 ?side4 ?side5 A52.out).mono ?_
                  (case side1 => repeat (first | (with_reducible first | exact HI0.out | apply IsS72.alloc | apply IsS72.drewN | apply IsS72.drew | apply IsS72.set_1 | apply IsS72.set_2 | refine IsS72.far ?_ NB0_338.out _ | refine IsS72.far ?_ NB0_350.out _) | exact HI0.out))
                  (case side2 => repeat (first | (with_reducible first | exact HB.out | apply bA_ | apply bN_ | apply bD_ | refine bS_ ?_ (IsS72.ge HI0.out) | refine bS_ ?_ GE338.out | refine bS_ ?_ GE350.out) | exact HB.out))
                  (case side3 => repeat (first | exact (Kd.R_reads' HO389.out).2.2 | (with_reducible first | apply cA_ | apply cN_ | apply cD_)))
                  (case side4 => exact (Kd.R_reads' HO389.out).2.1)
                  (case side5 => exact far_slice (IsS72.own_ne HI0.out HO389.out (by decide)))
                  rintro e w64 ⟨rfl, hi, hb, hk⟩
                  refine ⟨_, rfl, ?_⟩
                  replace HO_351002 := As_ (Kd.R_mono (Kd.R_keep (IsS72.apart (show IsS72 w0 _ g s0_0 t385 t386 from by repeat (first | (with_reducible first | exact HI0.out | apply IsS72.alloc | apply IsS72.drewN | apply IsS72.drew | apply IsS72.set_1 | apply IsS72.set_2 | refine IsS72.far ?_ NB0_338.out _ | refine IsS72.far ?_ NB0_350.out _) | exact HI0.out)) (rk_ HO_351002.out) (by decide)) hk (fun _ h => h.2)) (fun _ h => h.1))
                  replace BK338 := As_ (KeepBut.blk hk (g' := gb338) (o := .cells #[.int .i64 0, .int .i64 0, .slice none 0 0] 24 (0, 0)) (ak_ BK338.out) NB338_0.out (by simp))
                  replace BK350 := As_ (KeepBut.blk hk (g' := gb350) (o := .cells #[.int .i64 x351000_1, .int .i64 x351001_1, .slice Ao54 x351002_1.length co54] 24 (0, 0)) (ak_ BK350.out) NB350_0.out (by simp))
                  replace HO383 := As_ (Kd.R_mono (Kd.R_keep (IsS72.apart (show IsS72 w0 _ g s0_0 t385 t386 from by repeat (first | (with_reducible first | exact HI0.out | apply IsS72.alloc | apply IsS72.drewN | apply IsS72.drew | apply IsS72.set_1 | apply IsS72.set_2 | refine IsS72.far ?_ NB0_338.out _ | refine IsS72.far ?_ NB0_350.out _) | exact HI0.out)) (rk_ HO383.out) (by decide)) hk (fun _ h => h.2)) (fun _ h => h.1))
                  replace HO389 := As_ (Kd.R_mono (Kd.R_keep (IsS72.apart (show IsS72 w0 _ g s0_0 t385 t386 from by repeat (first | (with_reducible first | exact HI0.out | apply IsS72.alloc | apply IsS72.drewN | apply IsS72.drew | apply IsS72.set_1 | apply IsS72.set_2 | refine IsS72.far ?_ NB0_338.out _ | refine IsS72.far ?_ NB0_350.out _) | exact HI0.out)) (rk_ HO389.out) (by decide)) hk (fun _ h => h.2)) (fun _ h => h.1))
                  replace HK := As_ (KeepBut.trans (zk2_ HK.out GW338.out GW350.out) hk (.inl rfl))
                  replace HB := As_ (hb)
                  replace HI0 := As_ (hi)
                  (try clear hb)
                  (try clear hb2)
                  (try clear hk)
                  (try clear hi)
                  refine hK.out _ _ ⟨(blk_cell BK350.out 0).trans rfl, (blk_cell BK350.out 1).trans rfl, (blk_cell BK350.out 2).trans rfl⟩ (fun hHeld => ?_)
                  clear hK K
                  refine norm_ (a' := ?_) ?_ ?_
                  rotate_left
                  · show Act.put _ (some 59) _ = _
                    simp only [Act.put, List.setIfInBounds_toArray, List.set_cons_zero, List.set_cons_succ, i64_w, i32_w]
                    rfl
                  refine one_ (i := 8) (N := some 60) #[true, true, true, true, true, true, true, true, true, false, false, false, false] rfl rfl (one_of HT_.out (by kernel_rfl)) (by decide) (fun K hK => ?_)
                  refine goes_ Try.func28 (by kernel_rfl) rfl #[.agg #[.int .i64 x351000_1, .int .i64 x351001_1, .slice Ao54 x351002_1.length co54], .int .i64 t384, .int .i64 t390] (by rfl) rfl rfl tm_ ?_
                  with_reducible refine (spec_Grant.calls kj19 x351000_1 x351001_1 _ _ x351002_1 t384 t390 t393 t394 t395 t398 _ ?side1 ?side2 A53.out).mono ?_
                  (case side1 => repeat (first | exact (Kd.R_reads' HO_351002.out).2.2 | (with_reducible first | apply cA_ | apply cN_ | apply cD_)))
                  (case side2 => exact (Kd.R_reads' HO_351002.out).2.1)
                  rintro e w65 ⟨v396, rfl, ho0, hb⟩
                  refine ⟨_, rfl, ?_⟩
                  have n0_ := As_ (Kd.R_elder' (rk_ HO_351002.out) (Kd.R_base ho0) hb)
                  replace HO383 := As_ (Kd.R_below (rk_ HO383.out) hb)
                  replace HO389 := As_ (Kd.R_below (rk_ HO389.out) hb)
                  have HO397 := As_ (Kd.R_lower (Kd.R_new' ho0 (Kd.R_lt (rk_ HO_351002.out))) (keep_size (w := w) (g := g) (row := none) (zk2_ HK.out GW338.out GW350.out)))
                  replace BK338 := As_ (blk_below (g := gb338) (o := .cells #[.int .i64 0, .int .i64 0, .slice none 0 0] 24 (0, 0)) (ak_ BK338.out) hb)
                  replace BK350 := As_ (blk_below (g := gb350) (o := .cells #[.int .i64 x351000_1, .int .i64 x351001_1, .slice Ao54 x351002_1.length co54] 24 (0, 0)) (ak_ BK350.out) hb)
                  have n6_ := As_ (IsS72.below (by repeat (first | (with_reducible first | exact HI0.out | apply IsS72.alloc | apply IsS72.drewN | apply IsS72.drew | apply IsS72.set_1 | apply IsS72.set_2 | refine IsS72.far ?_ NB0_338.out _ | refine IsS72.far ?_ NB0_350.out _) | exact HI0.out)) hb)
                  replace HK := As_ (KeepBut.trans (zk2_ HK.out GW338.out GW350.out) (KeepBut.of_below hb g none) (.inl rfl))
                  replace HB := As_ (below_step (zb3_ HB.out (IsS72.ge HI0.out) GE338.out GE350.out) hb)
                  clear HO_351002 HI0
                  have HO_351002 := n0_
                  have HI0 := n6_
                  clear n0_ n6_
                  (try clear hb)
                  (try clear hb2)
                  (try clear hk)
                  (try clear hi)
                  (try clear ho0)
                  obtain ⟨Ao68, co68, eo68⟩ := Kd.R_slice HO397.out
                  (first | subst eo68 | (injection eo68 with f1_ f2_ f3_; have f4_ := f1_.symm; have f5_ := f3_.symm; clear f1_ f2_ f3_; subst f4_; subst f5_))
                  refine hK.out _ _ ⟨(blk_cell BK350.out 0).trans rfl, (blk_cell BK350.out 1).trans rfl, (blk_cell BK350.out 2).trans rfl⟩ (fun hHeld => ?_)
                  clear hK K
                  refine norm_ (a' := ?_) ?_ ?_
                  rotate_left
                  · show Act.put _ (some 60) _ = _
                    simp only [Act.put, List.setIfInBounds_toArray, List.set_cons_zero, List.set_cons_succ, i64_w, i32_w]
                    rfl
                  refine pure_ (i := 9) (N := some 51) (v := ?_) (a' := ?_) #[true, true, true, true, true, true, true, true, true, true, false, false, false] rfl rfl (any_of HT_.out (by kernel_rfl)) (fun _ _ _ h => h) (Or.inl ⟨by rfl, ?_⟩) ?_ ?_
                  rotate_left
                  · intro w'
                    go_simp
                    with_reducible rfl
                  rotate_left
                  · simp only [Act.put, List.setIfInBounds_toArray, List.set_cons_zero, List.set_cons_succ, i64_w, i32_w]
                    rfl
                  refine pure_ (i := 10) (N := some 61) (v := ?_) (a' := ?_) #[true, true, true, true, true, true, true, true, true, true, true, false, false] rfl rfl (any_of HT_.out (by kernel_rfl)) (fun _ _ _ h => h) (Or.inl ⟨by rfl, ?_⟩) ?_ ?_
                  rotate_left
                  · intro w'
                    go_simp
                    with_reducible rfl
                  rotate_left
                  · simp only [Act.put, List.setIfInBounds_toArray, List.set_cons_zero, List.set_cons_succ, i64_w, i32_w]
                    rfl
                  refine pure_ (i := 11) (N := some 62) (v := ?_) (a' := ?_) #[true, true, true, true, true, true, true, true, true, true, true, true, false] rfl rfl (any_of HT_.out (by kernel_rfl)) (fun _ _ _ h => h) (Or.inl ⟨by rfl, ?_⟩) ?_ ?_
                  rotate_left
                  · intro w'
                    go_simp
                    with_reducible rfl
                  rotate_left
                  · simp only [Act.put, List.setIfInBounds_toArray, List.set_cons_zero, List.set_cons_succ, i64_w, i32_w]
                    rfl
                  refine last_ (i := 12) (N := none) #[true, true, true, true, true, true, true, true, true, true, true, true, true] rfl rfl (one_of HT_.out (by kernel_rfl)) (by decide) (fun K hK => ?_)
                  have hs66 : w65.cell? ⟨gb350, 0, none⟩ = some (.int .i64 x351000_1) := (blk_cell BK350.out 0).trans rfl
                  have hfs66 := blk_frozen BK350.out 0
                  have hns66_0 := NB338_350.out
                  have hms66_0 := NB350_338.out
                  have hs67 : w65.cell? ⟨gb350, 1, none⟩ = some (.int .i64 x351001_1) := (blk_cell BK350.out 1).trans rfl
                  have hfs67 := blk_frozen BK350.out 1
                  have hns67_0 := NB338_350.out
                  have hms67_0 := NB350_338.out
                  have hs69 : w65.cell? ⟨gb350, 2, none⟩ = some (.slice Ao54 x351002_1.length co54) := (blk_cell BK350.out 2).trans rfl
                  have hfs69 := blk_frozen BK350.out 2
                  have hns69_0 := NB338_350.out
                  have hms69_0 := NB350_338.out
                  refine skip_ (w1 := ?_) (by rfl) rfl ?_ ?_
                  rotate_left
                  · go_simp
                    rfl
                  refine hK.out _ _ ?_
                  clear hK K
                  refine done_ (done_of HT_.out (by kernel_rfl)) ?_
                  try go_wp2
                  go_roundg kj19
                  case measure => have := HK1.out; have := HJ19.out; omega
                  case rel => exact ⟨(wrap64 (x4_1 - 1)), (t391), (t392), (t393), (t394), (t395), (.slice Ao68 t395.length co68), (by first | rfl | (simp; done) | (simp [*]; done)), H', ⟨by have := HK1.out; have := HJ19.out; omega⟩, ⟨rt3_ HO397.out BK350.out⟩, ⟨af_ NB338_350.out BK338.out⟩, ⟨ap_ BK350.out⟩, ⟨by repeat (first | (with_reducible first | exact HI0.out | apply IsS72.alloc | apply IsS72.drewN | apply IsS72.drew | apply IsS72.set_1 | apply IsS72.set_2 | refine IsS72.far ?_ NB0_338.out _ | refine IsS72.far ?_ NB0_350.out _) | exact HI0.out)⟩, ⟨zk2_ HK.out GW338.out GW350.out⟩, ⟨zb3_ HB.out (IsS72.ge HI0.out) GE338.out GE350.out⟩⟩
                · rw [if_neg c50] at H
                  have c50b0 : (t360 == 3) = false := beq_eq_false_iff_ne.mpr c50
                  have c50b1 : (t360 != 3) = true := bne_iff_ne.mpr c50
                  obtain ⟨y399, hy399⟩ : ∃ y_ : List Int, y_ = (([0, 50, 200] : List Int)) := ⟨_, rfl⟩
                  replace H : ((spec_l1Int.f s0_0 t361 t362 y399).bind fun bt402 => ((spec_NewInit.f kj19 x351000_1 x351001_1 x351002_1 bt402.1).bind fun bt405 => (spec_l10Draw.l0 kj19 (wrap64 (x4_1 - 1)) s0_0 bt402.2.1 bt402.2.2 bt405.1 bt405.2.1 bt405.2.2.1))) = some (r1, r2, r3, r4, r5) := by first | (rw [hy399]; with_reducible exact H) | (have H2_ := (Option.bind_some _ _).symm.trans H; rw [hy399]; with_reducible exact H2_) | (have H2_ := (Option.bind_some _ _).symm.trans H; with_reducible exact H2_) | with_reducible exact H | (rw [hy399]; exact H) | exact H
                  have Ny399 := Aside0.mk hy399
                  clear hy399
                  replace H := Option.bind_eq_some_iff.mp H
                  obtain ⟨⟨t402, t403, t404⟩, A700, H⟩ := H
                  replace H : ((spec_NewInit.f kj19 x351000_1 x351001_1 x351002_1 t402).bind fun bt405 => (spec_l10Draw.l0 kj19 (wrap64 (x4_1 - 1)) s0_0 t403 t404 bt405.1 bt405.2.1 bt405.2.2.1)) = some (r1, r2, r3, r4, r5) := H
                  have A70 := Aside0.mk A700
                  clear A700
                  replace H := Option.bind_eq_some_iff.mp H
                  obtain ⟨⟨t405, t406, t407, t410⟩, A710, H⟩ := H
                  replace H : (spec_l10Draw.l0 kj19 (wrap64 (x4_1 - 1)) s0_0 t403 t404 t405 t406 t407) = some (r1, r2, r3, r4, r5) := H
                  have A71 := Aside0.mk A710
                  clear A710
                  have H' := Aside0.mk H
                  clear H
                  try go_wp2
                  replace HO_351002 := As_ (Kd.R_drew HO_351002.out)
                  replace BK338 := As_ (blk_drew BK338.out)
                  replace BK350 := As_ (blk_drew BK350.out)
                  replace HI0 := As_ (IsS72.drew HI0.out)
                  replace HK := As_ (keep_drew HK.out)
                  replace HB := As_ (below_drew1 HB.out)
                  refine start_ (n := 9) (S := fun w' => w'.cell? ⟨gb350, 0, none⟩ = some (.int .i64 x351000_1) ∧ w'.cell? ⟨gb350, 1, none⟩ = some (.int .i64 x351001_1) ∧ w'.cell? ⟨gb350, 2, none⟩ = some (u351002)) (ds := [8]) #[false, false, false, false, false, false, false, false, false] (by kernel_rfl) rfl rfl ⟨(blk_cell BK350.out 0).trans rfl, (blk_cell BK350.out 1).trans rfl, (blk_cell BK350.out 2).trans rfl⟩ (fun hHeld => ?_); refine with_tabW spec_l10Draw.tab7 spec_l10Draw.bits7 (fun HT_ HW_ => ?_)
                  generalize wc.drew = w72 at HO_351002 BK338 BK350 HI0 HK HB hHeld ⊢
                  refine pure_ (i := 1) (N := some 23) (v := ?_) (a' := ?_) #[false, true, false, false, false, false, false, false, false] rfl rfl (any_of HT_.out (by kernel_rfl)) (fun _ _ _ h => h) (Or.inl ⟨by rfl, ?_⟩) ?_ ?_
                  rotate_left
                  · intro w'
                    go_simp
                    with_reducible rfl
                  rotate_left
                  · simp only [Act.put, List.setIfInBounds_toArray, List.set_cons_zero, List.set_cons_succ, i64_w, i32_w]
                    rfl
                  refine take_ (i := 0) (N := some 22) (v := ?_) (a' := ?_) #[true, true, false, false, false, false, false, false, false] rfl rfl (take_ofW HT_.out HW_.out (by kernel_rfl)) (fun _ _ _ h => h) (Or.inl ⟨by rfl, ?_⟩) hHeld ?_ ?_
                  rotate_left
                  · rintro w' ⟨s0, s1, s2⟩
                    go_simp
                    with_reducible rfl
                  rotate_left
                  · simp only [Act.put, List.setIfInBounds_toArray, List.set_cons_zero, List.set_cons_succ, i64_w, i32_w]
                    rfl
                  refine one_ (i := 2) (N := some 24) #[true, true, true, false, false, false, false, false, false] rfl rfl (one_of HT_.out (by kernel_rfl)) (by decide) (fun K hK => ?_)
                  refine Kd.R_lit_step (Kd.int .i64) _ 3 ?hg (N := 24) ?hd (xs := ([0, 50, 200] : List Int)) (inner := [.int .i64 0, .int .i64 50, .int .i64 200]) (ok := fun _ => True) (okp := fun _ => True) ?hr ?hp (fun _ hk => hk) trivial (Below.refl _ _) (Nat.le_refl _) (by simp) ?_; (case hd => rfl); (case hg => rfl); (case hr => first | (go_simp; done) | (go_simp; rfl)); (case hp => exact (Reps.one (show Kd.M (Kd.int .i64) _ _ _ 0 [.int .i64 0] from rfl) (Reps.one (show Kd.M (Kd.int .i64) _ _ _ 50 [.int .i64 50] from rfl) (Reps.one (show Kd.M (Kd.int .i64) _ _ _ 200 [.int .i64 200] from rfl) (Reps.none _ _)))))
                  intro v400 w73 ho74 hb hg_ hnew_
                  clear hg_ hnew_
                  (first | rw [← Ny399.out] at ho74 | (simp only [Int.reduceToNat] at ho74; rw [← Ny399.out] at ho74))
                  have n0_ := As_ (Kd.R_below (rk_ HO_351002.out) hb)
                  have n1_ := As_ (Kd.R_lower ho74 (keep_size (w := w) (g := g) (row := none) (zk2_ HK.out GW338.out GW350.out)))
                  have n2_ := As_ (blk_below (g := gb338) (o := .cells #[.int .i64 0, .int .i64 0, .slice none 0 0] 24 (0, 0)) (ak_ BK338.out) hb)
                  have n3_ := As_ (blk_below (g := gb350) (o := .cells #[.int .i64 x351000_1, .int .i64 x351001_1, u351002] 24 (0, 0)) (ak_ BK350.out) hb)
                  have n4_ := As_ (IsS72.below (by repeat (first | (with_reducible first | exact HI0.out | apply IsS72.alloc | apply IsS72.drewN | apply IsS72.drew | apply IsS72.set_1 | apply IsS72.set_2 | refine IsS72.far ?_ NB0_338.out _ | refine IsS72.far ?_ NB0_350.out _) | exact HI0.out)) hb)
                  have n5_ := As_ (KeepBut.trans (zk2_ HK.out GW338.out GW350.out) (KeepBut.of_below hb g none) (.inl rfl))
                  have n6_ := As_ (below_step (zb3_ HB.out (IsS72.ge HI0.out) GE338.out GE350.out) hb)
                  clear HO_351002 BK338 BK350 HI0 HK HB
                  have HO_351002 := n0_
                  have HO401 := n1_
                  have BK338 := n2_
                  have BK350 := n3_
                  have HI0 := n4_
                  have HK := n5_
                  have HB := n6_
                  clear n0_ n1_ n2_ n3_ n4_ n5_ n6_ hb ho74
                  obtain ⟨Ao75, co75, eo75⟩ := Kd.R_slice HO401.out
                  (first | subst eo75 | (injection eo75 with f1_ f2_ f3_; have f4_ := f1_.symm; have f5_ := f3_.symm; clear f1_ f2_ f3_; subst f4_; subst f5_))
                  refine hK.out _ _ ⟨(blk_cell BK350.out 0).trans rfl, (blk_cell BK350.out 1).trans rfl, (blk_cell BK350.out 2).trans rfl⟩ (fun hHeld => ?_)
                  clear hK K
                  refine norm_ (a' := ?_) ?_ ?_
                  rotate_left
                  · show Act.put _ (some 24) _ = _
                    simp only [Act.put, List.setIfInBounds_toArray, List.set_cons_zero, List.set_cons_succ, i64_w, i32_w]
                    rfl
                  refine one_ (i := 3) (N := some 25) #[true, true, true, true, false, false, false, false, false] rfl rfl (one_of HT_.out (by kernel_rfl)) (by decide) (fun K hK => ?_)
                  refine goes_ Try.func54 (by kernel_rfl) rfl #[.pointer (some ⟨g, 0, none⟩), .slice Ao75 y399.length co75] (by rfl) rfl rfl tm_ ?_
                  with_reducible refine (spec_l1Int.calls g s0_0 t361 t362 _ _ y399 t402 t403 t404 w0 _ ?side1 ?side2 ?side3 ?side4 ?side5 A70.out).mono ?_
                  (case side1 => repeat (first | (with_reducible first | exact HI0.out | apply IsS72.alloc | apply IsS72.drewN | apply IsS72.drew | apply IsS72.set_1 | apply IsS72.set_2 | refine IsS72.far ?_ NB0_338.out _ | refine IsS72.far ?_ NB0_350.out _) | exact HI0.out))
                  (case side2 => repeat (first | (with_reducible first | exact HB.out | apply bA_ | apply bN_ | apply bD_ | refine bS_ ?_ (IsS72.ge HI0.out) | refine bS_ ?_ GE338.out | refine bS_ ?_ GE350.out) | exact HB.out))
                  (case side3 => repeat (first | exact (Kd.R_reads' HO401.out).2.2 | (with_reducible first | apply cA_ | apply cN_ | apply cD_)))
                  (case side4 => exact (Kd.R_reads' HO401.out).2.1)
                  (case side5 => exact far_slice (IsS72.own_ne HI0.out HO401.out (by decide)))
                  rintro e w76 ⟨rfl, hi, hb, hk⟩
                  refine ⟨_, rfl, ?_⟩
                  replace HO_351002 := As_ (Kd.R_mono (Kd.R_keep (IsS72.apart (show IsS72 w0 _ g s0_0 t361 t362 from by repeat (first | (with_reducible first | exact HI0.out | apply IsS72.alloc | apply IsS72.drewN | apply IsS72.drew | apply IsS72.set_1 | apply IsS72.set_2 | refine IsS72.far ?_ NB0_338.out _ | refine IsS72.far ?_ NB0_350.out _) | exact HI0.out)) (rk_ HO_351002.out) (by decide)) hk (fun _ h => h.2)) (fun _ h => h.1))
                  replace BK338 := As_ (KeepBut.blk hk (g' := gb338) (o := .cells #[.int .i64 0, .int .i64 0, .slice none 0 0] 24 (0, 0)) (ak_ BK338.out) NB338_0.out (by simp))
                  replace BK350 := As_ (KeepBut.blk hk (g' := gb350) (o := .cells #[.int .i64 x351000_1, .int .i64 x351001_1, u351002] 24 (0, 0)) (ak_ BK350.out) NB350_0.out (by simp))
                  replace HO401 := As_ (Kd.R_mono (Kd.R_keep (IsS72.apart (show IsS72 w0 _ g s0_0 t361 t362 from by repeat (first | (with_reducible first | exact HI0.out | apply IsS72.alloc | apply IsS72.drewN | apply IsS72.drew | apply IsS72.set_1 | apply IsS72.set_2 | refine IsS72.far ?_ NB0_338.out _ | refine IsS72.far ?_ NB0_350.out _) | exact HI0.out)) (rk_ HO401.out) (by decide)) hk (fun _ h => h.2)) (fun _ h => h.1))
                  replace HK := As_ (KeepBut.trans (zk2_ HK.out GW338.out GW350.out) hk (.inl rfl))
                  replace HB := As_ (hb)
                  replace HI0 := As_ (hi)
                  (try clear hb)
                  (try clear hb2)
                  (try clear hk)
                  (try clear hi)
                  obtain ⟨Ao77, co77, eo77⟩ := Kd.R_slice HO_351002.out
                  (first | subst eo77 | (injection eo77 with f1_ f2_ f3_; have f4_ := f1_.symm; have f5_ := f3_.symm; clear f1_ f2_ f3_; subst f4_; subst f5_))
                  refine hK.out _ _ ⟨(blk_cell BK350.out 0).trans rfl, (blk_cell BK350.out 1).trans rfl, (blk_cell BK350.out 2).trans rfl⟩ (fun hHeld => ?_)
                  clear hK K
                  refine norm_ (a' := ?_) ?_ ?_
                  rotate_left
                  · show Act.put _ (some 25) _ = _
                    simp only [Act.put, List.setIfInBounds_toArray, List.set_cons_zero, List.set_cons_succ, i64_w, i32_w]
                    rfl
                  refine one_ (i := 4) (N := some 26) #[true, true, true, true, true, false, false, false, false] rfl rfl (one_of HT_.out (by kernel_rfl)) (by decide) (fun K hK => ?_)
                  refine goes_ Try.func24 (by kernel_rfl) rfl #[.agg #[.int .i64 x351000_1, .int .i64 x351001_1, .slice Ao77 x351002_1.length co77], .int .i64 t402] (by rfl) rfl rfl tm_ ?_
                  with_reducible refine (spec_NewInit.calls kj19 x351000_1 x351001_1 _ _ x351002_1 t402 t405 t406 t407 t410 _ ?side1 ?side2 A71.out).mono ?_
                  (case side1 => repeat (first | exact (Kd.R_reads' HO_351002.out).2.2 | (with_reducible first | apply cA_ | apply cN_ | apply cD_)))
                  (case side2 => exact (Kd.R_reads' HO_351002.out).2.1)
                  rintro e w78 ⟨v408, rfl, ho0, hb⟩
                  refine ⟨_, rfl, ?_⟩
                  have n0_ := As_ (Kd.R_elder' (rk_ HO_351002.out) (Kd.R_base ho0) hb)
                  replace HO401 := As_ (Kd.R_below (rk_ HO401.out) hb)
                  have HO409 := As_ (Kd.R_lower (Kd.R_new' ho0 (Kd.R_lt (rk_ HO_351002.out))) (keep_size (w := w) (g := g) (row := none) (zk2_ HK.out GW338.out GW350.out)))
                  replace BK338 := As_ (blk_below (g := gb338) (o := .cells #[.int .i64 0, .int .i64 0, .slice none 0 0] 24 (0, 0)) (ak_ BK338.out) hb)
                  replace BK350 := As_ (blk_below (g := gb350) (o := .cells #[.int .i64 x351000_1, .int .i64 x351001_1, .slice Ao77 x351002_1.length co77] 24 (0, 0)) (ak_ BK350.out) hb)
                  have n5_ := As_ (IsS72.below (by repeat (first | (with_reducible first | exact HI0.out | apply IsS72.alloc | apply IsS72.drewN | apply IsS72.drew | apply IsS72.set_1 | apply IsS72.set_2 | refine IsS72.far ?_ NB0_338.out _ | refine IsS72.far ?_ NB0_350.out _) | exact HI0.out)) hb)
                  replace HK := As_ (KeepBut.trans (zk2_ HK.out GW338.out GW350.out) (KeepBut.of_below hb g none) (.inl rfl))
                  replace HB := As_ (below_step (zb3_ HB.out (IsS72.ge HI0.out) GE338.out GE350.out) hb)
                  clear HO_351002 HI0
                  have HO_351002 := n0_
                  have HI0 := n5_
                  clear n0_ n5_
                  (try clear hb)
                  (try clear hb2)
                  (try clear hk)
                  (try clear hi)
                  (try clear ho0)
                  obtain ⟨Ao81, co81, eo81⟩ := Kd.R_slice HO409.out
                  (first | subst eo81 | (injection eo81 with f1_ f2_ f3_; have f4_ := f1_.symm; have f5_ := f3_.symm; clear f1_ f2_ f3_; subst f4_; subst f5_))
                  refine hK.out _ _ ⟨(blk_cell BK350.out 0).trans rfl, (blk_cell BK350.out 1).trans rfl, (blk_cell BK350.out 2).trans rfl⟩ (fun hHeld => ?_)
                  clear hK K
                  refine norm_ (a' := ?_) ?_ ?_
                  rotate_left
                  · show Act.put _ (some 26) _ = _
                    simp only [Act.put, List.setIfInBounds_toArray, List.set_cons_zero, List.set_cons_succ, i64_w, i32_w]
                    rfl
                  refine pure_ (i := 5) (N := some 21) (v := ?_) (a' := ?_) #[true, true, true, true, true, true, false, false, false] rfl rfl (any_of HT_.out (by kernel_rfl)) (fun _ _ _ h => h) (Or.inl ⟨by rfl, ?_⟩) ?_ ?_
                  rotate_left
                  · intro w'
                    go_simp
                    with_reducible rfl
                  rotate_left
                  · simp only [Act.put, List.setIfInBounds_toArray, List.set_cons_zero, List.set_cons_succ, i64_w, i32_w]
                    rfl
                  refine pure_ (i := 6) (N := some 27) (v := ?_) (a' := ?_) #[true, true, true, true, true, true, true, false, false] rfl rfl (any_of HT_.out (by kernel_rfl)) (fun _ _ _ h => h) (Or.inl ⟨by rfl, ?_⟩) ?_ ?_
                  rotate_left
                  · intro w'
                    go_simp
                    with_reducible rfl
                  rotate_left
                  · simp only [Act.put, List.setIfInBounds_toArray, List.set_cons_zero, List.set_cons_succ, i64_w, i32_w]
                    rfl
                  refine pure_ (i := 7) (N := some 28) (v := ?_) (a' := ?_) #[true, true, true, true, true, true, true, true, false] rfl rfl (any_of HT_.out (by kernel_rfl)) (fun _ _ _ h => h) (Or.inl ⟨by rfl, ?_⟩) ?_ ?_
                  rotate_left
                  · intro w'
                    go_simp
                    with_reducible rfl
                  rotate_left
                  · simp only [Act.put, List.setIfInBounds_toArray, List.set_cons_zero, List.set_cons_succ, i64_w, i32_w]
                    rfl
                  refine last_ (i := 8) (N := none) #[true, true, true, true, true, true, true, true, true] rfl rfl (one_of HT_.out (by kernel_rfl)) (by decide) (fun K hK => ?_)
                  have hs79 : w78.cell? ⟨gb350, 0, none⟩ = some (.int .i64 x351000_1) := (blk_cell BK350.out 0).trans rfl
                  have hfs79 := blk_frozen BK350.out 0
                  have hns79_0 := NB338_350.out
                  have hms79_0 := NB350_338.out
                  have hs80 : w78.cell? ⟨gb350, 1, none⟩ = some (.int .i64 x351001_1) := (blk_cell BK350.out 1).trans rfl
                  have hfs80 := blk_frozen BK350.out 1
                  have hns80_0 := NB338_350.out
                  have hms80_0 := NB350_338.out
                  have hs82 : w78.cell? ⟨gb350, 2, none⟩ = some (.slice Ao77 x351002_1.length co77) := (blk_cell BK350.out 2).trans rfl
                  have hfs82 := blk_frozen BK350.out 2
                  have hns82_0 := NB338_350.out
                  have hms82_0 := NB350_338.out
                  refine skip_ (w1 := ?_) (by rfl) rfl ?_ ?_
                  rotate_left
                  · go_simp
                    rfl
                  refine hK.out _ _ ?_
                  clear hK K
                  refine done_ (done_of HT_.out (by kernel_rfl)) ?_
                  try go_wp2
                  go_roundg kj19
                  case measure => have := HK1.out; have := HJ19.out; omega
                  case rel => exact ⟨(wrap64 (x4_1 - 1)), (t403), (t404), (t405), (t406), (t407), (.slice Ao81 t407.length co81), (by first | rfl | (simp; done) | (simp [*]; done)), H', ⟨by have := HK1.out; have := HJ19.out; omega⟩, ⟨rt3_ HO409.out BK350.out⟩, ⟨af_ NB338_350.out BK338.out⟩, ⟨ap_ BK350.out⟩, ⟨by repeat (first | (with_reducible first | exact HI0.out | apply IsS72.alloc | apply IsS72.drewN | apply IsS72.drew | apply IsS72.set_1 | apply IsS72.set_2 | refine IsS72.far ?_ NB0_338.out _ | refine IsS72.far ?_ NB0_350.out _) | exact HI0.out)⟩, ⟨zk2_ HK.out GW338.out GW350.out⟩, ⟨zb3_ HB.out (IsS72.ge HI0.out) GE338.out GE350.out⟩⟩
      · rw [if_neg c17] at H
        have c17b0 : decide (0 < x4_1) = false := decide_eq_false c17
        clear c17
        simp only [Option.some.injEq, Prod.mk.injEq] at H
        obtain ⟨rfl, rfl, rfl, rfl, rfl⟩ := H
        have hnb83 := NB350_338.out
        have hnc83 := NB338_350.out
        have hnb84 := NB350_0.out
        have hnc84 := NB0_350.out
        obtain ⟨hcz85_0, hcz85_1, hcz85_2, hfz85_0, hfz85_1, hfz85_2⟩ := blk_all3 BK350.out
        have hnb86 := NB338_0.out
        have hnc86 := NB0_338.out
        obtain ⟨hcz87_0, hcz87_1, hcz87_2, hfz87_0, hfz87_1, hfz87_2⟩ := blk_all3 BK338.out
        obtain ⟨Ao88, co88, eo88⟩ := Kd.R_slice HO_351002.out
        subst eo88
        go_wp2
        refine bodyPost_ret (results_cell_row rfl _ _ gb338 24 #[.int .i64 x351000_1, .int .i64 x351001_1, .slice Ao88 x351002_1.length co88] (0, 0) _ rfl (ap_ BK338.out) Try.underlying24 rfl (by kernel_rfl)) rfl ?_
        exact ⟨_, by first | rfl | (simp [errW_none, errW_some] <;> rfl) | (simp [*, errW_none, errW_some] <;> rfl), rt3_ HO_351002.out BK338.out, by repeat (first | (with_reducible first | exact HI0.out | apply IsS72.alloc | apply IsS72.drewN | apply IsS72.drew | apply IsS72.set_1 | apply IsS72.set_2 | refine IsS72.far ?_ NB0_338.out _ | refine IsS72.far ?_ NB0_350.out _) | exact HI0.out), zb3_ HB.out (IsS72.ge HI0.out) GE338.out GE350.out, zk2_ HK.out GW338.out GW350.out⟩

end Go.Proofs.Ytejnagdmfooemaa.QFnLanes
