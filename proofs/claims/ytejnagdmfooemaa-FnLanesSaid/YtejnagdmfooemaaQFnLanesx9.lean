/- Contracts of functions of the translation, each with its pure function; printed by a program of this session (wip/pr.py) over the kit's print; no condition of its own. -/
import Derived.Test.YtejnagdmfooemaaQFnLanesx0
import Derived.Test.YtejnagdmfooemaaQFnLanesx6
import Derived.Test.YtejnagdmfooemaaQFnLanesx8
namespace Go.Proofs.Ytejnagdmfooemaa.QFnLanes
open Go.RowKit Go.Proofs.YtejnagdmfooemaaW.PrintWords Go.Proofs.YtejnagdmfooemaaW.PrintLast Go.Proofs.YtejnagdmfooemaaW.PrintMore
attribute [local go_sem] max2_int min2_int max_two min_two max_three min_three max_four min_four   -- for this text's walks alone
set_option linter.unusedVariables false
set_option linter.unusedSimpArgs false

/-! ### spec_l10Any: function 53 -/
def spec_l10Any.f (k : Nat) (s0_0 : List Int) (s0_1 : Int) (s0_2 : Int) : Option (Int × Int × (List (S48)) × Int × Int) := (spec_l10Draw.f k s0_0 s0_1 s0_2).bind fun bt412 => ((spec_l1Below.f s0_0 bt412.2.2.2.1 bt412.2.2.2.2 12).bind fun bt420 => (if bt420.1 = 0 then ((spec_l1Int.f s0_0 bt420.2.1 bt420.2.2 (([(-1), 2147483647, 2147483648] : List Int))).bind fun bt426 => (some (bt426.1, bt412.2.1, bt412.2.2.1, bt426.2.1, bt426.2.2))) else (if bt420.1 = 1 then ((spec_l1Int.f s0_0 bt420.2.1 bt420.2.2 (([(-1), 2147483647] : List Int))).bind fun bt432 => (some (bt412.1, bt432.1, bt412.2.2.1, bt432.2.1, bt432.2.2))) else (if bt420.1 = 2 then ((spec_l1Below.f s0_0 bt420.2.1 bt420.2.2 8).bind fun bt435 => ((spec_l1Int.f s0_0 bt435.2.1 bt435.2.2 (([(-2147483648), 2147483647, 0, (-5)] : List Int))).bind fun bt441 => (if bt412.2.2.1.length < 8796093022208 then (some (bt412.1, bt412.2.1, (bt412.2.2.1 ++ [(⟨bt435.1, bt441.1⟩ : S48)]), bt441.2.1, bt441.2.2)) else (none)))) else (some (bt412.1, bt412.2.1, bt412.2.2.1, bt420.2.1, bt420.2.2))))))
theorem spec_l10Any.mono : ∀ a0 a1 a2 k, LeO (spec_l10Any.f k a0 a1 a2) (spec_l10Any.f (k + 1) a0 a1 a2) := by
  intro a0 a1 a2 k
  unfold spec_l10Any.f
  repeat' first
      | (with_reducible exact spec_l10Draw.mono _ _ _ _)
      | (with_reducible exact LeO.refl _)
      | (with_reducible exact LeO.none _)
      | (with_reducible refine LeO.ite ?_ ?_)
      | (with_reducible refine LeO.bind ?_ (fun _ => ?_))
      | exact spec_l10Draw.mono _ _ _ _
      | exact LeO.none _
      | refine LeO.ite ?_ ?_
      | refine LeO.bind ?_ (fun _ => ?_)
def spec_l10Any.T8 : Bool × List (List Nat × List Nat) := (true, [([], []), ([0], [0]), ([], []), ([2], [2]), ([], []), ([], []), ([4, 5, 3], [4, 5]), ([3, 6], [3, 6]), ([7], [7]), ([1, 8, 6], [1, 8]), ([0, 1, 2, 3, 4, 5, 6, 7, 8, 9], []), ([10, 9, 9, 0, 1, 2, 3, 4, 5, 6, 7, 8, 9], [9, 10])])
def spec_l10Any.B8 : List Nat := [0, 1, 0, 4, 0, 0, 60, 124, 252, 511, 1023, 2047]
theorem spec_l10Any.tab8 : rtab .any (opsOf Try.f53 8) = spec_l10Any.T8 := by kernel_rfl
theorem spec_l10Any.bits8 : waitsOk spec_l10Any.T8.2 spec_l10Any.B8 = true := by kernel_rfl
set_option maxHeartbeats 8000000 in
set_option maxRecDepth 100000 in
theorem spec_l10Any.calls (k : Nat) (g : Nat) (s0_0 : List Int) (s0_1 : Int) (s0_2 : Int) (r1 : Int) (r2 : Int) (r3 : List (S48)) (r4 : Int) (r5 : Int) (w0 w : World) (hI : IsS72 w0 w g s0_0 s0_1 s0_2) (hB : Below w0.heap.size w0 w) (h : spec_l10Any.f k s0_0 s0_1 s0_2 = some (r1, r2, r3, r4, r5)) :
    Calls Try.prog 53 #[.pointer (some ⟨g, 0, none⟩)] w fun e w' => ∃ v2_ : Value, e = .returned (.agg #[.int .i64 r1, .int .i64 r2, v2_]) ∧ Kd.R k48 48 w' w.heap.size (fun _ => True) v2_ r3 ∧ IsS72 w0 w' g s0_0 r4 r5 ∧ Below w0.heap.size w0 w' ∧ KeepBut w w' g none := by
  have hu24 := Try.underlying24
  have hu48 := Try.underlying48
  have HI0 := Aside0.mk hI
  have HK := As_ (KeepBut.refl w g none)
  have HL := Aside0.mk hB.size
  clear hI
  have HW0 := Aside0.mk hB.size
  have HB := Aside0.mk hB
  clear hB
  have H : ((spec_l10Draw.f k s0_0 s0_1 s0_2).bind fun bt412 => ((spec_l1Below.f s0_0 bt412.2.2.2.1 bt412.2.2.2.2 12).bind fun bt420 => (if bt420.1 = 0 then ((spec_l1Int.f s0_0 bt420.2.1 bt420.2.2 (([(-1), 2147483647, 2147483648] : List Int))).bind fun bt426 => (some (bt426.1, bt412.2.1, bt412.2.2.1, bt426.2.1, bt426.2.2))) else (if bt420.1 = 1 then ((spec_l1Int.f s0_0 bt420.2.1 bt420.2.2 (([(-1), 2147483647] : List Int))).bind fun bt432 => (some (bt412.1, bt432.1, bt412.2.2.1, bt432.2.1, bt432.2.2))) else (if bt420.1 = 2 then ((spec_l1Below.f s0_0 bt420.2.1 bt420.2.2 8).bind fun bt435 => ((spec_l1Int.f s0_0 bt435.2.1 bt435.2.2 (([(-2147483648), 2147483647, 0, (-5)] : List Int))).bind fun bt441 => (if bt412.2.2.1.length < 8796093022208 then (some (bt412.1, bt412.2.1, (bt412.2.2.1 ++ [(⟨bt435.1, bt441.1⟩ : S48)]), bt441.2.1, bt441.2.2)) else (none)))) else (some (bt412.1, bt412.2.1, bt412.2.2.1, bt420.2.1, bt420.2.2))))))) = some (r1, r2, r3, r4, r5) := h
  clear h
  replace H := Option.bind_eq_some_iff.mp H
  obtain ⟨⟨t412, t413, t414, t417, t418⟩, A20, H⟩ := H
  replace H : ((spec_l1Below.f s0_0 t417 t418 12).bind fun bt420 => (if bt420.1 = 0 then ((spec_l1Int.f s0_0 bt420.2.1 bt420.2.2 (([(-1), 2147483647, 2147483648] : List Int))).bind fun bt426 => (some (bt426.1, t413, t414, bt426.2.1, bt426.2.2))) else (if bt420.1 = 1 then ((spec_l1Int.f s0_0 bt420.2.1 bt420.2.2 (([(-1), 2147483647] : List Int))).bind fun bt432 => (some (t412, bt432.1, t414, bt432.2.1, bt432.2.2))) else (if bt420.1 = 2 then ((spec_l1Below.f s0_0 bt420.2.1 bt420.2.2 8).bind fun bt435 => ((spec_l1Int.f s0_0 bt435.2.1 bt435.2.2 (([(-2147483648), 2147483647, 0, (-5)] : List Int))).bind fun bt441 => (if t414.length < 8796093022208 then (some (t412, t413, (t414 ++ [(⟨bt435.1, bt441.1⟩ : S48)]), bt441.2.1, bt441.2.2)) else (none)))) else (some (t412, t413, t414, bt420.2.1, bt420.2.2)))))) = some (r1, r2, r3, r4, r5) := H
  have A2 := Aside0.mk A20
  clear A20
  replace H := Option.bind_eq_some_iff.mp H
  obtain ⟨⟨t420, t421, t422⟩, A30, H⟩ := H
  replace H : (if t420 = 0 then ((spec_l1Int.f s0_0 t421 t422 (([(-1), 2147483647, 2147483648] : List Int))).bind fun bt426 => (some (bt426.1, t413, t414, bt426.2.1, bt426.2.2))) else (if t420 = 1 then ((spec_l1Int.f s0_0 t421 t422 (([(-1), 2147483647] : List Int))).bind fun bt432 => (some (t412, bt432.1, t414, bt432.2.1, bt432.2.2))) else (if t420 = 2 then ((spec_l1Below.f s0_0 t421 t422 8).bind fun bt435 => ((spec_l1Int.f s0_0 bt435.2.1 bt435.2.2 (([(-2147483648), 2147483647, 0, (-5)] : List Int))).bind fun bt441 => (if t414.length < 8796093022208 then (some (t412, t413, (t414 ++ [(⟨bt435.1, bt441.1⟩ : S48)]), bt441.2.1, bt441.2.2)) else (none)))) else (some (t412, t413, t414, t421, t422))))) = some (r1, r2, r3, r4, r5) := H
  have A3 := Aside0.mk A30
  clear A30
  by_cases c4 : t420 = 0
  · rw [if_pos c4] at H
    have c4b0 : (t420 == 0) = true := beq_iff_eq.mpr c4
    have c4b1 : (t420 != 0) = false := bne_eq_false_iff_eq.mpr c4
    clear c4
    obtain ⟨y423, hy423⟩ : ∃ y_ : List Int, y_ = (([(-1), 2147483647, 2147483648] : List Int)) := ⟨_, rfl⟩
    replace H : ((spec_l1Int.f s0_0 t421 t422 y423).bind fun bt426 => (some (bt426.1, t413, t414, bt426.2.1, bt426.2.2))) = some (r1, r2, r3, r4, r5) := by first | (rw [hy423]; with_reducible exact H) | (have H2_ := (Option.bind_some _ _).symm.trans H; rw [hy423]; with_reducible exact H2_) | (have H2_ := (Option.bind_some _ _).symm.trans H; with_reducible exact H2_) | with_reducible exact H | (rw [hy423]; exact H) | exact H
    have Ny423 := Aside0.mk hy423
    clear hy423
    replace H := Option.bind_eq_some_iff.mp H
    obtain ⟨⟨t426, t427, t428⟩, A50, H⟩ := H
    replace H : (some (t426, t413, t414, t427, t428)) = some (r1, r2, r3, r4, r5) := H
    have A5 := Aside0.mk A50
    clear A50
    simp only [Option.some.injEq, Prod.mk.injEq] at H
    obtain ⟨rfl, rfl, rfl, rfl, rfl⟩ := H
    go_enter Try.func53, Try.ntmps53
    go_wp2_with (first | ((with_reducible refine gate_dst (N := 2) rfl ?_); refine box_event ?hg (N := 2) ?hd (cs := #[.int .i64 0, .int .i64 0, .slice none 0 0]) (t := 24) ?hr ?_; (case hd => rfl); (case hg => rfl); (case hr => first | (go_simp; done) | (go_simp; rfl)); intro gb411 hg w6 hbox hb; have n0_ := As_ (IsS72.below (by repeat (first | (with_reducible first | exact HI0.out | apply IsS72.alloc | apply IsS72.drewN | apply IsS72.drew | apply IsS72.set_1 | apply IsS72.set_2) | exact HI0.out)) hb); have n1_ := As_ (KeepBut.trans (zk0_ HK.out) (KeepBut.of_below hb g none) (.inl rfl)); have n2_ := As_ (below_step (zb1_ HB.out (IsS72.ge HI0.out)) hb); have n3_ := As_ (hbox); have n4_ := As_ ((sk_ hg (zk0_ HK.out) : w.heap.size ≤ gb411)); have n5_ := As_ ((Nat.le_trans HW0.out (sk_ hg (zk0_ HK.out) : w.heap.size ≤ gb411) : w0.heap.size ≤ gb411)); have n6_ := As_ ((by rw [hg]; exact Nat.ne_of_lt (IsS72.lt (show IsS72 w0 _ g s0_0 s0_1 s0_2 from by repeat (first | (with_reducible first | exact HI0.out | apply IsS72.alloc | apply IsS72.drewN | apply IsS72.drew | apply IsS72.set_1 | apply IsS72.set_2) | exact HI0.out))) : g ≠ gb411)); have n7_ := As_ ((by rw [hg]; exact Nat.ne_of_gt (IsS72.lt (show IsS72 w0 _ g s0_0 s0_1 s0_2 from by repeat (first | (with_reducible first | exact HI0.out | apply IsS72.alloc | apply IsS72.drewN | apply IsS72.drew | apply IsS72.set_1 | apply IsS72.set_2) | exact HI0.out))) : gb411 ≠ g)); clear HI0 HK HB; have HI0 := n0_; have HK := n1_; have HB := n2_; have BK411 := n3_; have GW411 := n4_; have GE411 := n5_; have NB0_411 := n6_; have NB411_0 := n7_; clear n0_ n1_ n2_ n3_ n4_ n5_ n6_ n7_ hb hbox hg) | ((with_reducible refine gate_callee (f := 59) rfl ?_); refine goesL_ (some 5) rfl rfl Try.func59 (by kernel_rfl) rfl #[.pointer (some ⟨g, 0, none⟩)] rfl tm_ ?_; (with_reducible refine (spec_l10Draw.calls k g s0_0 s0_1 s0_2 t412 t413 t414 t417 t418 w0 _ ?side1 ?side2 A2.out).mono ?_); (case side1 => repeat (first | (with_reducible first | exact HI0.out | apply IsS72.alloc | apply IsS72.drewN | apply IsS72.drew | apply IsS72.set_1 | apply IsS72.set_2 | refine IsS72.far ?_ NB0_411.out _) | exact HI0.out)); (case side2 => repeat (first | (with_reducible first | exact HB.out | apply bA_ | apply bN_ | apply bD_ | refine bS_ ?_ (IsS72.ge HI0.out) | refine bS_ ?_ GE411.out) | exact HB.out)); rintro e w7 ⟨v415, rfl, ho0, hi, hb, hk⟩; refine ⟨_, rfl, ?_⟩; replace BK411 := As_ (KeepBut.blk hk (g' := gb411) (o := .cells #[.int .i64 0, .int .i64 0, .slice none 0 0] 24 (0, 0)) (ak_ BK411.out) NB411_0.out (by simp)); have HO416 := As_ (Kd.R_lower ho0 (keep_size (w := w) (g := g) (row := none) (zk1_ HK.out GW411.out))); replace HK := As_ (KeepBut.trans (zk1_ HK.out GW411.out) hk (.inl rfl)); replace HB := As_ (hb); replace HI0 := As_ (hi); (try clear hb); (try clear hb2); (try clear hk); (try clear hi); (try clear ho0)) | ((with_reducible refine gate_dst (N := 3) rfl ?_); refine box_event ?hg (N := 3) ?hd (cs := #[.int .i64 0, .int .i64 0, .slice none 0 0]) (t := 24) ?hr ?_; (case hd => rfl); (case hg => rfl); (case hr => first | (go_simp; done) | (go_simp; rfl)); intro gb419 hg w8 hbox hb; have n0_ := As_ (Kd.R_below (rk_ HO416.out) hb); have n1_ := As_ (IsS72.below (by repeat (first | (with_reducible first | exact HI0.out | apply IsS72.alloc | apply IsS72.drewN | apply IsS72.drew | apply IsS72.set_1 | apply IsS72.set_2 | refine IsS72.far ?_ NB0_411.out _) | exact HI0.out)) hb); have n2_ := As_ (blk_below (g := gb411) (o := .cells #[.int .i64 0, .int .i64 0, .slice none 0 0] 24 (0, 0)) (ak_ BK411.out) hb); have n3_ := As_ (KeepBut.trans (zk1_ HK.out GW411.out) (KeepBut.of_below hb g none) (.inl rfl)); have n4_ := As_ (below_step (zb2_ HB.out (IsS72.ge HI0.out) GE411.out) hb); have n5_ := As_ (hbox); have n6_ := As_ ((sk_ hg (zk1_ HK.out GW411.out) : w.heap.size ≤ gb419)); have n7_ := As_ ((Nat.le_trans HW0.out (sk_ hg (zk1_ HK.out GW411.out) : w.heap.size ≤ gb419) : w0.heap.size ≤ gb419)); have n8_ := As_ ((nl_ hg BK411.out : gb411 ≠ gb419)); have n9_ := As_ ((ng_ hg BK411.out : gb419 ≠ gb411)); have n10_ := As_ ((by rw [hg]; exact Nat.ne_of_lt (IsS72.lt (show IsS72 w0 _ g s0_0 t417 t418 from by repeat (first | (with_reducible first | exact HI0.out | apply IsS72.alloc | apply IsS72.drewN | apply IsS72.drew | apply IsS72.set_1 | apply IsS72.set_2 | refine IsS72.far ?_ NB0_411.out _) | exact HI0.out))) : g ≠ gb419)); have n11_ := As_ ((by rw [hg]; exact Nat.ne_of_gt (IsS72.lt (show IsS72 w0 _ g s0_0 t417 t418 from by repeat (first | (with_reducible first | exact HI0.out | apply IsS72.alloc | apply IsS72.drewN | apply IsS72.drew | apply IsS72.set_1 | apply IsS72.set_2 | refine IsS72.far ?_ NB0_411.out _) | exact HI0.out))) : gb419 ≠ g)); clear HO416 HI0 BK411 HK HB; have HO416 := n0_; have HI0 := n1_; have BK411 := n2_; have HK := n3_; have HB := n4_; have BK419 := n5_; have GW419 := n6_; have GE419 := n7_; have NB411_419 := n8_; have NB419_411 := n9_; have NB0_419 := n10_; have NB419_0 := n11_; clear n0_ n1_ n2_ n3_ n4_ n5_ n6_ n7_ n8_ n9_ n10_ n11_ hb hbox hg; have hnb9 := NB419_411.out; have hnc9 := NB411_419.out; have hnb10 := NB419_0.out; have hnc10 := NB0_419.out; obtain ⟨hcz11_0, hcz11_1, hcz11_2, hfz11_0, hfz11_1, hfz11_2⟩ := blk_all3 BK419.out; obtain ⟨Ao12, co12, eo12⟩ := Kd.R_slice HO416.out; subst eo12) | ((with_reducible refine gate_callee (f := 60) rfl ?_); refine goesL_ (some 7) rfl rfl Try.func60 (by kernel_rfl) rfl #[.pointer (some ⟨g, 0, none⟩), .int .i64 12] rfl tm_ ?_; (with_reducible refine (spec_l1Below.calls g s0_0 t417 t418 12 t420 t421 t422 w0 _ ?side1 ?side2 A3.out).mono ?_); (case side1 => repeat (first | (with_reducible first | exact HI0.out | apply IsS72.alloc | apply IsS72.drewN | apply IsS72.drew | apply IsS72.set_1 | apply IsS72.set_2 | refine IsS72.far ?_ NB0_411.out _ | refine IsS72.far ?_ NB0_419.out _) | exact HI0.out)); (case side2 => repeat (first | (with_reducible first | exact HB.out | apply bA_ | apply bN_ | apply bD_ | refine bS_ ?_ (IsS72.ge HI0.out) | refine bS_ ?_ GE411.out | refine bS_ ?_ GE419.out) | exact HB.out)); rintro e w13 ⟨rfl, hi, hb, hk⟩; refine ⟨_, rfl, ?_⟩; replace BK411 := As_ (KeepBut.blk hk (g' := gb411) (o := .cells #[.int .i64 0, .int .i64 0, .slice none 0 0] 24 (0, 0)) (af_ NB411_419.out BK411.out) NB411_0.out (by simp)); replace HO416 := As_ (Kd.R_mono (Kd.R_keep (IsS72.apart (show IsS72 w0 _ g s0_0 t417 t418 from by repeat (first | (with_reducible first | exact HI0.out | apply IsS72.alloc | apply IsS72.drewN | apply IsS72.drew | apply IsS72.set_1 | apply IsS72.set_2 | refine IsS72.far ?_ NB0_411.out _ | refine IsS72.far ?_ NB0_419.out _) | exact HI0.out)) (rf3_ HO416.out BK419.out) (by decide)) hk (fun _ h => h.2)) (fun _ h => h.1)); replace BK419 := As_ (KeepBut.blk hk (g' := gb419) (o := .cells #[.int .i64 t412, .int .i64 t413, .slice Ao12 t414.length co12] 24 (0, 0)) (ap_ BK419.out) NB419_0.out (by simp)); replace HK := As_ (KeepBut.trans (zk2_ HK.out GW411.out GW419.out) hk (.inl rfl)); replace HB := As_ (hb); replace HI0 := As_ (hi); (try clear hb); (try clear hb2); (try clear hk); (try clear hi)) | ((with_reducible refine gate_dst (N := 11) rfl ?_); refine Kd.R_lit (Kd.int .i64) _ 3 ?hg (N := 11) ?hd (xs := ([(-1), 2147483647, 2147483648] : List Int)) (inner := [.int .i64 (-1), .int .i64 2147483647, .int .i64 2147483648]) (ok := fun _ => True) (okp := fun _ => True) ?hr ?hp (fun _ hk => hk) trivial (Below.refl _ _) (Nat.le_refl _) (by simp) ?_; (case hd => rfl); (case hg => rfl); (case hr => first | (go_simp; done) | (go_simp; rfl)); (case hp => exact (Reps.one (show Kd.M (Kd.int .i64) _ _ _ (-1) [.int .i64 (-1)] from rfl) (Reps.one (show Kd.M (Kd.int .i64) _ _ _ 2147483647 [.int .i64 2147483647] from rfl) (Reps.one (show Kd.M (Kd.int .i64) _ _ _ 2147483648 [.int .i64 2147483648] from rfl) (Reps.none _ _))))); intro v424 w14 ho15 hb hg_ hnew_; clear hg_ hnew_; (first | rw [← Ny423.out] at ho15 | (simp only [Int.reduceToNat] at ho15; rw [← Ny423.out] at ho15)); have n0_ := As_ (Kd.R_below (rk_ HO416.out) hb); have n1_ := As_ (Kd.R_lower ho15 (keep_size (w := w) (g := g) (row := none) (zk2_ HK.out GW411.out GW419.out))); have n2_ := As_ (IsS72.below (by repeat (first | (with_reducible first | exact HI0.out | apply IsS72.alloc | apply IsS72.drewN | apply IsS72.drew | apply IsS72.set_1 | apply IsS72.set_2 | refine IsS72.far ?_ NB0_411.out _ | refine IsS72.far ?_ NB0_419.out _) | exact HI0.out)) hb); have n3_ := As_ (blk_below (g := gb411) (o := .cells #[.int .i64 0, .int .i64 0, .slice none 0 0] 24 (0, 0)) (ak_ BK411.out) hb); have n4_ := As_ (blk_below (g := gb419) (o := .cells #[.int .i64 t412, .int .i64 t413, .slice Ao12 t414.length co12] 24 (0, 0)) (ak_ BK419.out) hb); have n5_ := As_ (KeepBut.trans (zk2_ HK.out GW411.out GW419.out) (KeepBut.of_below hb g none) (.inl rfl)); have n6_ := As_ (below_step (zb3_ HB.out (IsS72.ge HI0.out) GE411.out GE419.out) hb); clear HO416 HI0 BK411 BK419 HK HB; have HO416 := n0_; have HO425 := n1_; have HI0 := n2_; have BK411 := n3_; have BK419 := n4_; have HK := n5_; have HB := n6_; clear n0_ n1_ n2_ n3_ n4_ n5_ n6_ hb ho15; obtain ⟨Ao16, co16, eo16⟩ := Kd.R_slice HO425.out; subst eo16) | ((with_reducible refine gate_callee (f := 54) rfl ?_); refine goesL_ (some 12) rfl rfl Try.func54 (by kernel_rfl) rfl #[.pointer (some ⟨g, 0, none⟩), .slice Ao16 y423.length co16] rfl tm_ ?_; (with_reducible refine (spec_l1Int.calls g s0_0 t421 t422 _ _ y423 t426 t427 t428 w0 _ ?side1 ?side2 ?side3 ?side4 ?side5 A5.out).mono ?_); (case side1 => repeat (first | (with_reducible first | exact HI0.out | apply IsS72.alloc | apply IsS72.drewN | apply IsS72.drew | apply IsS72.set_1 | apply IsS72.set_2 | refine IsS72.far ?_ NB0_411.out _ | refine IsS72.far ?_ NB0_419.out _) | exact HI0.out)); (case side2 => repeat (first | (with_reducible first | exact HB.out | apply bA_ | apply bN_ | apply bD_ | refine bS_ ?_ (IsS72.ge HI0.out) | refine bS_ ?_ GE411.out | refine bS_ ?_ GE419.out) | exact HB.out)); (case side3 => repeat (first | exact (Kd.R_reads' HO425.out).2.2 | (with_reducible first | apply cA_ | apply cN_ | apply cD_))); (case side4 => exact (Kd.R_reads' HO425.out).2.1); (case side5 => exact far_slice (IsS72.own_ne HI0.out HO425.out (by decide))); rintro e w17 ⟨rfl, hi, hb, hk⟩; refine ⟨_, rfl, ?_⟩; replace BK411 := As_ (KeepBut.blk hk (g' := gb411) (o := .cells #[.int .i64 0, .int .i64 0, .slice none 0 0] 24 (0, 0)) (ak_ BK411.out) NB411_0.out (by simp)); replace HO416 := As_ (Kd.R_mono (Kd.R_keep (IsS72.apart (show IsS72 w0 _ g s0_0 t421 t422 from by repeat (first | (with_reducible first | exact HI0.out | apply IsS72.alloc | apply IsS72.drewN | apply IsS72.drew | apply IsS72.set_1 | apply IsS72.set_2 | refine IsS72.far ?_ NB0_411.out _ | refine IsS72.far ?_ NB0_419.out _) | exact HI0.out)) (rk_ HO416.out) (by decide)) hk (fun _ h => h.2)) (fun _ h => h.1)); replace BK419 := As_ (KeepBut.blk hk (g' := gb419) (o := .cells #[.int .i64 t412, .int .i64 t413, .slice Ao12 t414.length co12] 24 (0, 0)) (ak_ BK419.out) NB419_0.out (by simp)); replace HO425 := As_ (Kd.R_mono (Kd.R_keep (IsS72.apart (show IsS72 w0 _ g s0_0 t421 t422 from by repeat (first | (with_reducible first | exact HI0.out | apply IsS72.alloc | apply IsS72.drewN | apply IsS72.drew | apply IsS72.set_1 | apply IsS72.set_2 | refine IsS72.far ?_ NB0_411.out _ | refine IsS72.far ?_ NB0_419.out _) | exact HI0.out)) (rk_ HO425.out) (by decide)) hk (fun _ h => h.2)) (fun _ h => h.1)); replace HK := As_ (KeepBut.trans (zk2_ HK.out GW411.out GW419.out) hk (.inl rfl)); replace HB := As_ (hb); replace HI0 := As_ (hi); (try clear hb); (try clear hb2); (try clear hk); (try clear hi); obtain ⟨hcz18_0, hcz18_1, hcz18_2, hfz18_0, hfz18_1, hfz18_2⟩ := blk_all3 BK419.out; have hnb19 := NB411_0.out; have hnc19 := NB0_411.out; obtain ⟨hcz20_0, hcz20_1, hcz20_2, hfz20_0, hfz20_1, hfz20_2⟩ := blk_all3 BK411.out))
    refine bodyPost_ret (results_cell_row rfl _ _ gb411 24 #[.int .i64 t426, .int .i64 t413, .slice Ao12 t414.length co12] (0, 0) _ rfl (ag_ NB411_419.out BK411.out) Try.underlying24 rfl (by kernel_rfl)) rfl ?_
    exact ⟨_, by first | rfl | (simp [errW_none, errW_some] <;> rfl) | (simp [*, errW_none, errW_some] <;> rfl), by (with_reducible repeat (first | apply rA_ | apply rN_ | apply rD_)); exact Kd.R_mono (Kd.R_far (p := ⟨gb411, 2, none⟩) (Kd.R_far (p := ⟨gb411, 1, none⟩) (Kd.R_far (p := ⟨gb411, 0, none⟩) (Kd.R_far (p := ⟨gb419, 0, none⟩) (Kd.R_types (Kd.R_types HO416.out BK419.out (by decide)) BK411.out (by decide)) (fun _ hk => hk.1.2) (.int .i64 t426)) (fun _ hk => hk.2) (.int .i64 t426)) (fun _ hk => hk.2) (.int .i64 t413)) (fun _ hk => hk.2) (.slice Ao12 t414.length co12)) (fun _ hk => trivial), by repeat (first | (with_reducible first | exact HI0.out | apply IsS72.alloc | apply IsS72.drewN | apply IsS72.drew | apply IsS72.set_1 | apply IsS72.set_2 | refine IsS72.far ?_ NB0_411.out _ | refine IsS72.far ?_ NB0_419.out _) | exact HI0.out), zb3_ HB.out (IsS72.ge HI0.out) GE411.out GE419.out, zk2_ HK.out GW411.out GW419.out⟩
  · rw [if_neg c4] at H
    have c4b0 : (t420 == 0) = false := beq_eq_false_iff_ne.mpr c4
    have c4b1 : (t420 != 0) = true := bne_iff_ne.mpr c4
    by_cases c21 : t420 = 1
    · rw [if_pos c21] at H
      have c21b0 : (t420 == 1) = true := beq_iff_eq.mpr c21
      have c21b1 : (t420 != 1) = false := bne_eq_false_iff_eq.mpr c21
      clear c21
      obtain ⟨y429, hy429⟩ : ∃ y_ : List Int, y_ = (([(-1), 2147483647] : List Int)) := ⟨_, rfl⟩
      replace H : ((spec_l1Int.f s0_0 t421 t422 y429).bind fun bt432 => (some (t412, bt432.1, t414, bt432.2.1, bt432.2.2))) = some (r1, r2, r3, r4, r5) := by first | (rw [hy429]; with_reducible exact H) | (have H2_ := (Option.bind_some _ _).symm.trans H; rw [hy429]; with_reducible exact H2_) | (have H2_ := (Option.bind_some _ _).symm.trans H; with_reducible exact H2_) | with_reducible exact H | (rw [hy429]; exact H) | exact H
      have Ny429 := Aside0.mk hy429
      clear hy429
      replace H := Option.bind_eq_some_iff.mp H
      obtain ⟨⟨t432, t433, t434⟩, A220, H⟩ := H
      replace H : (some (t412, t432, t414, t433, t434)) = some (r1, r2, r3, r4, r5) := H
      have A22 := Aside0.mk A220
      clear A220
      simp only [Option.some.injEq, Prod.mk.injEq] at H
      obtain ⟨rfl, rfl, rfl, rfl, rfl⟩ := H
      go_enter Try.func53, Try.ntmps53
      go_wp2_with (first | ((with_reducible refine gate_dst (N := 2) rfl ?_); refine box_event ?hg (N := 2) ?hd (cs := #[.int .i64 0, .int .i64 0, .slice none 0 0]) (t := 24) ?hr ?_; (case hd => rfl); (case hg => rfl); (case hr => first | (go_simp; done) | (go_simp; rfl)); intro gb411 hg w23 hbox hb; have n0_ := As_ (IsS72.below (by repeat (first | (with_reducible first | exact HI0.out | apply IsS72.alloc | apply IsS72.drewN | apply IsS72.drew | apply IsS72.set_1 | apply IsS72.set_2) | exact HI0.out)) hb); have n1_ := As_ (KeepBut.trans (zk0_ HK.out) (KeepBut.of_below hb g none) (.inl rfl)); have n2_ := As_ (below_step (zb1_ HB.out (IsS72.ge HI0.out)) hb); have n3_ := As_ (hbox); have n4_ := As_ ((sk_ hg (zk0_ HK.out) : w.heap.size ≤ gb411)); have n5_ := As_ ((Nat.le_trans HW0.out (sk_ hg (zk0_ HK.out) : w.heap.size ≤ gb411) : w0.heap.size ≤ gb411)); have n6_ := As_ ((by rw [hg]; exact Nat.ne_of_lt (IsS72.lt (show IsS72 w0 _ g s0_0 s0_1 s0_2 from by repeat (first | (with_reducible first | exact HI0.out | apply IsS72.alloc | apply IsS72.drewN | apply IsS72.drew | apply IsS72.set_1 | apply IsS72.set_2) | exact HI0.out))) : g ≠ gb411)); have n7_ := As_ ((by rw [hg]; exact Nat.ne_of_gt (IsS72.lt (show IsS72 w0 _ g s0_0 s0_1 s0_2 from by repeat (first | (with_reducible first | exact HI0.out | apply IsS72.alloc | apply IsS72.drewN | apply IsS72.drew | apply IsS72.set_1 | apply IsS72.set_2) | exact HI0.out))) : gb411 ≠ g)); clear HI0 HK HB; have HI0 := n0_; have HK := n1_; have HB := n2_; have BK411 := n3_; have GW411 := n4_; have GE411 := n5_; have NB0_411 := n6_; have NB411_0 := n7_; clear n0_ n1_ n2_ n3_ n4_ n5_ n6_ n7_ hb hbox hg) | ((with_reducible refine gate_callee (f := 59) rfl ?_); refine goesL_ (some 5) rfl rfl Try.func59 (by kernel_rfl) rfl #[.pointer (some ⟨g, 0, none⟩)] rfl tm_ ?_; (with_reducible refine (spec_l10Draw.calls k g s0_0 s0_1 s0_2 t412 t413 t414 t417 t418 w0 _ ?side1 ?side2 A2.out).mono ?_); (case side1 => repeat (first | (with_reducible first | exact HI0.out | apply IsS72.alloc | apply IsS72.drewN | apply IsS72.drew | apply IsS72.set_1 | apply IsS72.set_2 | refine IsS72.far ?_ NB0_411.out _) | exact HI0.out)); (case side2 => repeat (first | (with_reducible first | exact HB.out | apply bA_ | apply bN_ | apply bD_ | refine bS_ ?_ (IsS72.ge HI0.out) | refine bS_ ?_ GE411.out) | exact HB.out)); rintro e w24 ⟨v415, rfl, ho0, hi, hb, hk⟩; refine ⟨_, rfl, ?_⟩; replace BK411 := As_ (KeepBut.blk hk (g' := gb411) (o := .cells #[.int .i64 0, .int .i64 0, .slice none 0 0] 24 (0, 0)) (ak_ BK411.out) NB411_0.out (by simp)); have HO416 := As_ (Kd.R_lower ho0 (keep_size (w := w) (g := g) (row := none) (zk1_ HK.out GW411.out))); replace HK := As_ (KeepBut.trans (zk1_ HK.out GW411.out) hk (.inl rfl)); replace HB := As_ (hb); replace HI0 := As_ (hi); (try clear hb); (try clear hb2); (try clear hk); (try clear hi); (try clear ho0)) | ((with_reducible refine gate_dst (N := 3) rfl ?_); refine box_event ?hg (N := 3) ?hd (cs := #[.int .i64 0, .int .i64 0, .slice none 0 0]) (t := 24) ?hr ?_; (case hd => rfl); (case hg => rfl); (case hr => first | (go_simp; done) | (go_simp; rfl)); intro gb419 hg w25 hbox hb; have n0_ := As_ (Kd.R_below (rk_ HO416.out) hb); have n1_ := As_ (IsS72.below (by repeat (first | (with_reducible first | exact HI0.out | apply IsS72.alloc | apply IsS72.drewN | apply IsS72.drew | apply IsS72.set_1 | apply IsS72.set_2 | refine IsS72.far ?_ NB0_411.out _) | exact HI0.out)) hb); have n2_ := As_ (blk_below (g := gb411) (o := .cells #[.int .i64 0, .int .i64 0, .slice none 0 0] 24 (0, 0)) (ak_ BK411.out) hb); have n3_ := As_ (KeepBut.trans (zk1_ HK.out GW411.out) (KeepBut.of_below hb g none) (.inl rfl)); have n4_ := As_ (below_step (zb2_ HB.out (IsS72.ge HI0.out) GE411.out) hb); have n5_ := As_ (hbox); have n6_ := As_ ((sk_ hg (zk1_ HK.out GW411.out) : w.heap.size ≤ gb419)); have n7_ := As_ ((Nat.le_trans HW0.out (sk_ hg (zk1_ HK.out GW411.out) : w.heap.size ≤ gb419) : w0.heap.size ≤ gb419)); have n8_ := As_ ((nl_ hg BK411.out : gb411 ≠ gb419)); have n9_ := As_ ((ng_ hg BK411.out : gb419 ≠ gb411)); have n10_ := As_ ((by rw [hg]; exact Nat.ne_of_lt (IsS72.lt (show IsS72 w0 _ g s0_0 t417 t418 from by repeat (first | (with_reducible first | exact HI0.out | apply IsS72.alloc | apply IsS72.drewN | apply IsS72.drew | apply IsS72.set_1 | apply IsS72.set_2 | refine IsS72.far ?_ NB0_411.out _) | exact HI0.out))) : g ≠ gb419)); have n11_ := As_ ((by rw [hg]; exact Nat.ne_of_gt (IsS72.lt (show IsS72 w0 _ g s0_0 t417 t418 from by repeat (first | (with_reducible first | exact HI0.out | apply IsS72.alloc | apply IsS72.drewN | apply IsS72.drew | apply IsS72.set_1 | apply IsS72.set_2 | refine IsS72.far ?_ NB0_411.out _) | exact HI0.out))) : gb419 ≠ g)); clear HO416 HI0 BK411 HK HB; have HO416 := n0_; have HI0 := n1_; have BK411 := n2_; have HK := n3_; have HB := n4_; have BK419 := n5_; have GW419 := n6_; have GE419 := n7_; have NB411_419 := n8_; have NB419_411 := n9_; have NB0_419 := n10_; have NB419_0 := n11_; clear n0_ n1_ n2_ n3_ n4_ n5_ n6_ n7_ n8_ n9_ n10_ n11_ hb hbox hg; have hnb26 := NB419_411.out; have hnc26 := NB411_419.out; have hnb27 := NB419_0.out; have hnc27 := NB0_419.out; obtain ⟨hcz28_0, hcz28_1, hcz28_2, hfz28_0, hfz28_1, hfz28_2⟩ := blk_all3 BK419.out; obtain ⟨Ao29, co29, eo29⟩ := Kd.R_slice HO416.out; subst eo29) | ((with_reducible refine gate_callee (f := 60) rfl ?_); refine goesL_ (some 7) rfl rfl Try.func60 (by kernel_rfl) rfl #[.pointer (some ⟨g, 0, none⟩), .int .i64 12] rfl tm_ ?_; (with_reducible refine (spec_l1Below.calls g s0_0 t417 t418 12 t420 t421 t422 w0 _ ?side1 ?side2 A3.out).mono ?_); (case side1 => repeat (first | (with_reducible first | exact HI0.out | apply IsS72.alloc | apply IsS72.drewN | apply IsS72.drew | apply IsS72.set_1 | apply IsS72.set_2 | refine IsS72.far ?_ NB0_411.out _ | refine IsS72.far ?_ NB0_419.out _) | exact HI0.out)); (case side2 => repeat (first | (with_reducible first | exact HB.out | apply bA_ | apply bN_ | apply bD_ | refine bS_ ?_ (IsS72.ge HI0.out) | refine bS_ ?_ GE411.out | refine bS_ ?_ GE419.out) | exact HB.out)); rintro e w30 ⟨rfl, hi, hb, hk⟩; refine ⟨_, rfl, ?_⟩; replace BK411 := As_ (KeepBut.blk hk (g' := gb411) (o := .cells #[.int .i64 0, .int .i64 0, .slice none 0 0] 24 (0, 0)) (af_ NB411_419.out BK411.out) NB411_0.out (by simp)); replace HO416 := As_ (Kd.R_mono (Kd.R_keep (IsS72.apart (show IsS72 w0 _ g s0_0 t417 t418 from by repeat (first | (with_reducible first | exact HI0.out | apply IsS72.alloc | apply IsS72.drewN | apply IsS72.drew | apply IsS72.set_1 | apply IsS72.set_2 | refine IsS72.far ?_ NB0_411.out _ | refine IsS72.far ?_ NB0_419.out _) | exact HI0.out)) (rf3_ HO416.out BK419.out) (by decide)) hk (fun _ h => h.2)) (fun _ h => h.1)); replace BK419 := As_ (KeepBut.blk hk (g' := gb419) (o := .cells #[.int .i64 t412, .int .i64 t413, .slice Ao29 t414.length co29] 24 (0, 0)) (ap_ BK419.out) NB419_0.out (by simp)); replace HK := As_ (KeepBut.trans (zk2_ HK.out GW411.out GW419.out) hk (.inl rfl)); replace HB := As_ (hb); replace HI0 := As_ (hi); (try clear hb); (try clear hb2); (try clear hk); (try clear hi)) | ((with_reducible refine gate_dst (N := 17) rfl ?_); refine Kd.R_lit (Kd.int .i64) _ 3 ?hg (N := 17) ?hd (xs := ([(-1), 2147483647] : List Int)) (inner := [.int .i64 (-1), .int .i64 2147483647]) (ok := fun _ => True) (okp := fun _ => True) ?hr ?hp (fun _ hk => hk) trivial (Below.refl _ _) (Nat.le_refl _) (by simp) ?_; (case hd => rfl); (case hg => rfl); (case hr => first | (go_simp; done) | (go_simp; rfl)); (case hp => exact (Reps.one (show Kd.M (Kd.int .i64) _ _ _ (-1) [.int .i64 (-1)] from rfl) (Reps.one (show Kd.M (Kd.int .i64) _ _ _ 2147483647 [.int .i64 2147483647] from rfl) (Reps.none _ _)))); intro v430 w31 ho32 hb hg_ hnew_; clear hg_ hnew_; (first | rw [← Ny429.out] at ho32 | (simp only [Int.reduceToNat] at ho32; rw [← Ny429.out] at ho32)); have n0_ := As_ (Kd.R_below (rk_ HO416.out) hb); have n1_ := As_ (Kd.R_lower ho32 (keep_size (w := w) (g := g) (row := none) (zk2_ HK.out GW411.out GW419.out))); have n2_ := As_ (IsS72.below (by repeat (first | (with_reducible first | exact HI0.out | apply IsS72.alloc | apply IsS72.drewN | apply IsS72.drew | apply IsS72.set_1 | apply IsS72.set_2 | refine IsS72.far ?_ NB0_411.out _ | refine IsS72.far ?_ NB0_419.out _) | exact HI0.out)) hb); have n3_ := As_ (blk_below (g := gb411) (o := .cells #[.int .i64 0, .int .i64 0, .slice none 0 0] 24 (0, 0)) (ak_ BK411.out) hb); have n4_ := As_ (blk_below (g := gb419) (o := .cells #[.int .i64 t412, .int .i64 t413, .slice Ao29 t414.length co29] 24 (0, 0)) (ak_ BK419.out) hb); have n5_ := As_ (KeepBut.trans (zk2_ HK.out GW411.out GW419.out) (KeepBut.of_below hb g none) (.inl rfl)); have n6_ := As_ (below_step (zb3_ HB.out (IsS72.ge HI0.out) GE411.out GE419.out) hb); clear HO416 HI0 BK411 BK419 HK HB; have HO416 := n0_; have HO431 := n1_; have HI0 := n2_; have BK411 := n3_; have BK419 := n4_; have HK := n5_; have HB := n6_; clear n0_ n1_ n2_ n3_ n4_ n5_ n6_ hb ho32; obtain ⟨Ao33, co33, eo33⟩ := Kd.R_slice HO431.out; subst eo33) | ((with_reducible refine gate_callee (f := 54) rfl ?_); refine goesL_ (some 18) rfl rfl Try.func54 (by kernel_rfl) rfl #[.pointer (some ⟨g, 0, none⟩), .slice Ao33 y429.length co33] rfl tm_ ?_; (with_reducible refine (spec_l1Int.calls g s0_0 t421 t422 _ _ y429 t432 t433 t434 w0 _ ?side1 ?side2 ?side3 ?side4 ?side5 A22.out).mono ?_); (case side1 => repeat (first | (with_reducible first | exact HI0.out | apply IsS72.alloc | apply IsS72.drewN | apply IsS72.drew | apply IsS72.set_1 | apply IsS72.set_2 | refine IsS72.far ?_ NB0_411.out _ | refine IsS72.far ?_ NB0_419.out _) | exact HI0.out)); (case side2 => repeat (first | (with_reducible first | exact HB.out | apply bA_ | apply bN_ | apply bD_ | refine bS_ ?_ (IsS72.ge HI0.out) | refine bS_ ?_ GE411.out | refine bS_ ?_ GE419.out) | exact HB.out)); (case side3 => repeat (first | exact (Kd.R_reads' HO431.out).2.2 | (with_reducible first | apply cA_ | apply cN_ | apply cD_))); (case side4 => exact (Kd.R_reads' HO431.out).2.1); (case side5 => exact far_slice (IsS72.own_ne HI0.out HO431.out (by decide))); rintro e w34 ⟨rfl, hi, hb, hk⟩; refine ⟨_, rfl, ?_⟩; replace BK411 := As_ (KeepBut.blk hk (g' := gb411) (o := .cells #[.int .i64 0, .int .i64 0, .slice none 0 0] 24 (0, 0)) (ak_ BK411.out) NB411_0.out (by simp)); replace HO416 := As_ (Kd.R_mono (Kd.R_keep (IsS72.apart (show IsS72 w0 _ g s0_0 t421 t422 from by repeat (first | (with_reducible first | exact HI0.out | apply IsS72.alloc | apply IsS72.drewN | apply IsS72.drew | apply IsS72.set_1 | apply IsS72.set_2 | refine IsS72.far ?_ NB0_411.out _ | refine IsS72.far ?_ NB0_419.out _) | exact HI0.out)) (rk_ HO416.out) (by decide)) hk (fun _ h => h.2)) (fun _ h => h.1)); replace BK419 := As_ (KeepBut.blk hk (g' := gb419) (o := .cells #[.int .i64 t412, .int .i64 t413, .slice Ao29 t414.length co29] 24 (0, 0)) (ak_ BK419.out) NB419_0.out (by simp)); replace HO431 := As_ (Kd.R_mono (Kd.R_keep (IsS72.apart (show IsS72 w0 _ g s0_0 t421 t422 from by repeat (first | (with_reducible first | exact HI0.out | apply IsS72.alloc | apply IsS72.drewN | apply IsS72.drew | apply IsS72.set_1 | apply IsS72.set_2 | refine IsS72.far ?_ NB0_411.out _ | refine IsS72.far ?_ NB0_419.out _) | exact HI0.out)) (rk_ HO431.out) (by decide)) hk (fun _ h => h.2)) (fun _ h => h.1)); replace HK := As_ (KeepBut.trans (zk2_ HK.out GW411.out GW419.out) hk (.inl rfl)); replace HB := As_ (hb); replace HI0 := As_ (hi); (try clear hb); (try clear hb2); (try clear hk); (try clear hi); obtain ⟨hcz35_0, hcz35_1, hcz35_2, hfz35_0, hfz35_1, hfz35_2⟩ := blk_all3 BK419.out; have hnb36 := NB411_0.out; have hnc36 := NB0_411.out; obtain ⟨hcz37_0, hcz37_1, hcz37_2, hfz37_0, hfz37_1, hfz37_2⟩ := blk_all3 BK411.out))
      refine bodyPost_ret (results_cell_row rfl _ _ gb411 24 #[.int .i64 t412, .int .i64 t432, .slice Ao29 t414.length co29] (0, 0) _ rfl (ag_ NB411_419.out BK411.out) Try.underlying24 rfl (by kernel_rfl)) rfl ?_
      exact ⟨_, by first | rfl | (simp [errW_none, errW_some] <;> rfl) | (simp [*, errW_none, errW_some] <;> rfl), by (with_reducible repeat (first | apply rA_ | apply rN_ | apply rD_)); exact Kd.R_mono (Kd.R_far (p := ⟨gb411, 2, none⟩) (Kd.R_far (p := ⟨gb411, 1, none⟩) (Kd.R_far (p := ⟨gb411, 0, none⟩) (Kd.R_far (p := ⟨gb419, 1, none⟩) (Kd.R_types (Kd.R_types HO416.out BK419.out (by decide)) BK411.out (by decide)) (fun _ hk => hk.1.2) (.int .i64 t432)) (fun _ hk => hk.2) (.int .i64 t412)) (fun _ hk => hk.2) (.int .i64 t432)) (fun _ hk => hk.2) (.slice Ao29 t414.length co29)) (fun _ hk => trivial), by repeat (first | (with_reducible first | exact HI0.out | apply IsS72.alloc | apply IsS72.drewN | apply IsS72.drew | apply IsS72.set_1 | apply IsS72.set_2 | refine IsS72.far ?_ NB0_411.out _ | refine IsS72.far ?_ NB0_419.out _) | exact HI0.out), zb3_ HB.out (IsS72.ge HI0.out) GE411.out GE419.out, zk2_ HK.out GW411.out GW419.out⟩
    · rw [if_neg c21] at H
      have c21b0 : (t420 == 1) = false := beq_eq_false_iff_ne.mpr c21
      have c21b1 : (t420 != 1) = true := bne_iff_ne.mpr c21
      by_cases c38 : t420 = 2
      · rw [if_pos c38] at H
        have c38b0 : (t420 == 2) = true := beq_iff_eq.mpr c38
        have c38b1 : (t420 != 2) = false := bne_eq_false_iff_eq.mpr c38
        clear c38
        replace H := Option.bind_eq_some_iff.mp H
        obtain ⟨⟨t435, t436, t437⟩, A390, H⟩ := H
        replace H : ((spec_l1Int.f s0_0 t436 t437 (([(-2147483648), 2147483647, 0, (-5)] : List Int))).bind fun bt441 => (if t414.length < 8796093022208 then (some (t412, t413, (t414 ++ [(⟨t435, bt441.1⟩ : S48)]), bt441.2.1, bt441.2.2)) else (none))) = some (r1, r2, r3, r4, r5) := H
        have A39 := Aside0.mk A390
        clear A390
        obtain ⟨y438, hy438⟩ : ∃ y_ : List Int, y_ = (([(-2147483648), 2147483647, 0, (-5)] : List Int)) := ⟨_, rfl⟩
        replace H : ((spec_l1Int.f s0_0 t436 t437 y438).bind fun bt441 => (if t414.length < 8796093022208 then (some (t412, t413, (t414 ++ [(⟨t435, bt441.1⟩ : S48)]), bt441.2.1, bt441.2.2)) else (none))) = some (r1, r2, r3, r4, r5) := by first | (rw [hy438]; with_reducible exact H) | (have H2_ := (Option.bind_some _ _).symm.trans H; rw [hy438]; with_reducible exact H2_) | (have H2_ := (Option.bind_some _ _).symm.trans H; with_reducible exact H2_) | with_reducible exact H | (rw [hy438]; exact H) | exact H
        have Ny438 := Aside0.mk hy438
        clear hy438
        replace H := Option.bind_eq_some_iff.mp H
        obtain ⟨⟨t441, t442, t443⟩, A400, H⟩ := H
        replace H : (if t414.length < 8796093022208 then (some (t412, t413, (t414 ++ [(⟨t435, t441⟩ : S48)]), t442, t443)) else (none)) = some (r1, r2, r3, r4, r5) := H
        have A40 := Aside0.mk A400
        clear A400
        by_cases c41 : t414.length < 8796093022208
        · rw [if_pos c41] at H
          have LMc41 := Aside0.mk c41
          clear c41
          obtain ⟨y444, hy444⟩ : ∃ y_ : List (S48), y_ = (t414 ++ [(⟨t435, t441⟩ : S48)]) := ⟨_, rfl⟩
          replace H : (some (t412, t413, y444, t442, t443)) = some (r1, r2, r3, r4, r5) := by first | (rw [hy444]; with_reducible exact H) | (have H2_ := (Option.bind_some _ _).symm.trans H; rw [hy444]; with_reducible exact H2_) | (have H2_ := (Option.bind_some _ _).symm.trans H; with_reducible exact H2_) | with_reducible exact H | (rw [hy444]; exact H) | exact H
          have Ny444 := Aside0.mk hy444
          clear hy444
          simp only [Option.some.injEq, Prod.mk.injEq] at H
          obtain ⟨rfl, rfl, rfl, rfl, rfl⟩ := H
          go_enter Try.func53, Try.ntmps53
          try go_wp2_with (first | ((with_reducible refine gate_dst (N := 2) rfl ?_); refine box_event ?hg (N := 2) ?hd (cs := #[.int .i64 0, .int .i64 0, .slice none 0 0]) (t := 24) ?hr ?_; (case hd => rfl); (case hg => rfl); (case hr => first | (go_simp; done) | (go_simp; rfl)); intro gb411 hg w42 hbox hb; have n0_ := As_ (IsS72.below (by repeat (first | (with_reducible first | exact HI0.out | apply IsS72.alloc | apply IsS72.drewN | apply IsS72.drew | apply IsS72.set_1 | apply IsS72.set_2) | exact HI0.out)) hb); have n1_ := As_ (KeepBut.trans (zk0_ HK.out) (KeepBut.of_below hb g none) (.inl rfl)); have n2_ := As_ (below_step (zb1_ HB.out (IsS72.ge HI0.out)) hb); have n3_ := As_ (hbox); have n4_ := As_ ((sk_ hg (zk0_ HK.out) : w.heap.size ≤ gb411)); have n5_ := As_ ((Nat.le_trans HW0.out (sk_ hg (zk0_ HK.out) : w.heap.size ≤ gb411) : w0.heap.size ≤ gb411)); have n6_ := As_ ((by rw [hg]; exact Nat.ne_of_lt (IsS72.lt (show IsS72 w0 _ g s0_0 s0_1 s0_2 from by repeat (first | (with_reducible first | exact HI0.out | apply IsS72.alloc | apply IsS72.drewN | apply IsS72.drew | apply IsS72.set_1 | apply IsS72.set_2) | exact HI0.out))) : g ≠ gb411)); have n7_ := As_ ((by rw [hg]; exact Nat.ne_of_gt (IsS72.lt (show IsS72 w0 _ g s0_0 s0_1 s0_2 from by repeat (first | (with_reducible first | exact HI0.out | apply IsS72.alloc | apply IsS72.drewN | apply IsS72.drew | apply IsS72.set_1 | apply IsS72.set_2) | exact HI0.out))) : gb411 ≠ g)); clear HI0 HK HB; have HI0 := n0_; have HK := n1_; have HB := n2_; have BK411 := n3_; have GW411 := n4_; have GE411 := n5_; have NB0_411 := n6_; have NB411_0 := n7_; clear n0_ n1_ n2_ n3_ n4_ n5_ n6_ n7_ hb hbox hg) | ((with_reducible refine gate_callee (f := 59) rfl ?_); refine goesL_ (some 5) rfl rfl Try.func59 (by kernel_rfl) rfl #[.pointer (some ⟨g, 0, none⟩)] rfl tm_ ?_; (with_reducible refine (spec_l10Draw.calls k g s0_0 s0_1 s0_2 t412 t413 t414 t417 t418 w0 _ ?side1 ?side2 A2.out).mono ?_); (case side1 => repeat (first | (with_reducible first | exact HI0.out | apply IsS72.alloc | apply IsS72.drewN | apply IsS72.drew | apply IsS72.set_1 | apply IsS72.set_2 | refine IsS72.far ?_ NB0_411.out _) | exact HI0.out)); (case side2 => repeat (first | (with_reducible first | exact HB.out | apply bA_ | apply bN_ | apply bD_ | refine bS_ ?_ (IsS72.ge HI0.out) | refine bS_ ?_ GE411.out) | exact HB.out)); rintro e w43 ⟨v415, rfl, ho0, hi, hb, hk⟩; refine ⟨_, rfl, ?_⟩; replace BK411 := As_ (KeepBut.blk hk (g' := gb411) (o := .cells #[.int .i64 0, .int .i64 0, .slice none 0 0] 24 (0, 0)) (ak_ BK411.out) NB411_0.out (by simp)); have HO416 := As_ (Kd.R_lower ho0 (keep_size (w := w) (g := g) (row := none) (zk1_ HK.out GW411.out))); replace HK := As_ (KeepBut.trans (zk1_ HK.out GW411.out) hk (.inl rfl)); replace HB := As_ (hb); replace HI0 := As_ (hi); (try clear hb); (try clear hb2); (try clear hk); (try clear hi); (try clear ho0)) | ((with_reducible refine gate_dst (N := 3) rfl ?_); refine box_event ?hg (N := 3) ?hd (cs := #[.int .i64 0, .int .i64 0, .slice none 0 0]) (t := 24) ?hr ?_; (case hd => rfl); (case hg => rfl); (case hr => first | (go_simp; done) | (go_simp; rfl)); intro gb419 hg w44 hbox hb; have n0_ := As_ (Kd.R_below (rk_ HO416.out) hb); have n1_ := As_ (IsS72.below (by repeat (first | (with_reducible first | exact HI0.out | apply IsS72.alloc | apply IsS72.drewN | apply IsS72.drew | apply IsS72.set_1 | apply IsS72.set_2 | refine IsS72.far ?_ NB0_411.out _) | exact HI0.out)) hb); have n2_ := As_ (blk_below (g := gb411) (o := .cells #[.int .i64 0, .int .i64 0, .slice none 0 0] 24 (0, 0)) (ak_ BK411.out) hb); have n3_ := As_ (KeepBut.trans (zk1_ HK.out GW411.out) (KeepBut.of_below hb g none) (.inl rfl)); have n4_ := As_ (below_step (zb2_ HB.out (IsS72.ge HI0.out) GE411.out) hb); have n5_ := As_ (hbox); have n6_ := As_ ((sk_ hg (zk1_ HK.out GW411.out) : w.heap.size ≤ gb419)); have n7_ := As_ ((Nat.le_trans HW0.out (sk_ hg (zk1_ HK.out GW411.out) : w.heap.size ≤ gb419) : w0.heap.size ≤ gb419)); have n8_ := As_ ((nl_ hg BK411.out : gb411 ≠ gb419)); have n9_ := As_ ((ng_ hg BK411.out : gb419 ≠ gb411)); have n10_ := As_ ((by rw [hg]; exact Nat.ne_of_lt (IsS72.lt (show IsS72 w0 _ g s0_0 t417 t418 from by repeat (first | (with_reducible first | exact HI0.out | apply IsS72.alloc | apply IsS72.drewN | apply IsS72.drew | apply IsS72.set_1 | apply IsS72.set_2 | refine IsS72.far ?_ NB0_411.out _) | exact HI0.out))) : g ≠ gb419)); have n11_ := As_ ((by rw [hg]; exact Nat.ne_of_gt (IsS72.lt (show IsS72 w0 _ g s0_0 t417 t418 from by repeat (first | (with_reducible first | exact HI0.out | apply IsS72.alloc | apply IsS72.drewN | apply IsS72.drew | apply IsS72.set_1 | apply IsS72.set_2 | refine IsS72.far ?_ NB0_411.out _) | exact HI0.out))) : gb419 ≠ g)); clear HO416 HI0 BK411 HK HB; have HO416 := n0_; have HI0 := n1_; have BK411 := n2_; have HK := n3_; have HB := n4_; have BK419 := n5_; have GW419 := n6_; have GE419 := n7_; have NB411_419 := n8_; have NB419_411 := n9_; have NB0_419 := n10_; have NB419_0 := n11_; clear n0_ n1_ n2_ n3_ n4_ n5_ n6_ n7_ n8_ n9_ n10_ n11_ hb hbox hg; have hnb45 := NB419_411.out; have hnc45 := NB411_419.out; have hnb46 := NB419_0.out; have hnc46 := NB0_419.out; obtain ⟨hcz47_0, hcz47_1, hcz47_2, hfz47_0, hfz47_1, hfz47_2⟩ := blk_all3 BK419.out; obtain ⟨Ao48, co48, eo48⟩ := Kd.R_slice HO416.out; subst eo48) | ((with_reducible refine gate_callee (f := 60) rfl ?_); refine goesL_ (some 7) rfl rfl Try.func60 (by kernel_rfl) rfl #[.pointer (some ⟨g, 0, none⟩), .int .i64 12] rfl tm_ ?_; (with_reducible refine (spec_l1Below.calls g s0_0 t417 t418 12 t420 t421 t422 w0 _ ?side1 ?side2 A3.out).mono ?_); (case side1 => repeat (first | (with_reducible first | exact HI0.out | apply IsS72.alloc | apply IsS72.drewN | apply IsS72.drew | apply IsS72.set_1 | apply IsS72.set_2 | refine IsS72.far ?_ NB0_411.out _ | refine IsS72.far ?_ NB0_419.out _) | exact HI0.out)); (case side2 => repeat (first | (with_reducible first | exact HB.out | apply bA_ | apply bN_ | apply bD_ | refine bS_ ?_ (IsS72.ge HI0.out) | refine bS_ ?_ GE411.out | refine bS_ ?_ GE419.out) | exact HB.out)); rintro e w49 ⟨rfl, hi, hb, hk⟩; refine ⟨_, rfl, ?_⟩; replace BK411 := As_ (KeepBut.blk hk (g' := gb411) (o := .cells #[.int .i64 0, .int .i64 0, .slice none 0 0] 24 (0, 0)) (af_ NB411_419.out BK411.out) NB411_0.out (by simp)); replace HO416 := As_ (Kd.R_mono (Kd.R_keep (IsS72.apart (show IsS72 w0 _ g s0_0 t417 t418 from by repeat (first | (with_reducible first | exact HI0.out | apply IsS72.alloc | apply IsS72.drewN | apply IsS72.drew | apply IsS72.set_1 | apply IsS72.set_2 | refine IsS72.far ?_ NB0_411.out _ | refine IsS72.far ?_ NB0_419.out _) | exact HI0.out)) (rf3_ HO416.out BK419.out) (by decide)) hk (fun _ h => h.2)) (fun _ h => h.1)); replace BK419 := As_ (KeepBut.blk hk (g' := gb419) (o := .cells #[.int .i64 t412, .int .i64 t413, .slice Ao48 t414.length co48] 24 (0, 0)) (ap_ BK419.out) NB419_0.out (by simp)); replace HK := As_ (KeepBut.trans (zk2_ HK.out GW411.out GW419.out) hk (.inl rfl)); replace HB := As_ (hb); replace HI0 := As_ (hi); (try clear hb); (try clear hb2); (try clear hk); (try clear hi)))
          replace HO416 := As_ (Kd.R_drew HO416.out)
          replace BK411 := As_ (blk_drew BK411.out)
          replace BK419 := As_ (blk_drew BK419.out)
          replace HI0 := As_ (IsS72.drew HI0.out)
          replace HK := As_ (keep_drew HK.out)
          replace HB := As_ (below_drew1 HB.out)
          refine start_ (n := 12) (S := fun w' => w'.cell? ⟨gb419, 0, none⟩ = some (.int .i64 t412) ∧ w'.cell? ⟨gb419, 1, none⟩ = some (.int .i64 t413) ∧ w'.cell? ⟨gb419, 2, none⟩ = some (.slice Ao48 t414.length co48)) (ds := [11]) #[false, false, false, false, false, false, false, false, false, false, false, false] (by kernel_rfl) rfl rfl ⟨(blk_cell BK419.out 0).trans rfl, (blk_cell BK419.out 1).trans rfl, (blk_cell BK419.out 2).trans rfl⟩ (fun hHeld => ?_); refine with_tabW spec_l10Any.tab8 spec_l10Any.bits8 (fun HT_ HW_ => ?_)
          generalize w49.drew = w50 at HO416 BK411 BK419 HI0 HK HB hHeld ⊢
          refine pure_ (i := 0) (N := some 22) (v := ?_) (a' := ?_) #[true, false, false, false, false, false, false, false, false, false, false, false] rfl rfl (any_of HT_.out (by kernel_rfl)) (fun _ _ _ h => h) (Or.inl ⟨by rfl, ?_⟩) ?_ ?_
          rotate_left
          · intro w'
            go_simp
            with_reducible rfl
          rotate_left
          · simp only [Act.put, List.setIfInBounds_toArray, List.set_cons_zero, List.set_cons_succ, i64_w, i32_w]
            rfl
          refine pure_ (i := 2) (N := some 24) (v := ?_) (a' := ?_) #[true, false, true, false, false, false, false, false, false, false, false, false] rfl rfl (any_of HT_.out (by kernel_rfl)) (fun _ _ _ h => h) (Or.inl ⟨by rfl, ?_⟩) ?_ ?_
          rotate_left
          · intro w'
            go_simp
            with_reducible rfl
          rotate_left
          · simp only [Act.put, List.setIfInBounds_toArray, List.set_cons_zero, List.set_cons_succ, i64_w, i32_w]
            rfl
          refine pure_ (i := 4) (N := some 26) (v := ?_) (a' := ?_) #[true, false, true, false, true, false, false, false, false, false, false, false] rfl rfl (any_of HT_.out (by kernel_rfl)) (fun _ _ _ h => h) (Or.inl ⟨by rfl, ?_⟩) ?_ ?_
          rotate_left
          · intro w'
            go_simp
            with_reducible rfl
          rotate_left
          · simp only [Act.put, List.setIfInBounds_toArray, List.set_cons_zero, List.set_cons_succ, i64_w, i32_w]
            rfl
          refine take_ (i := 1) (N := some 23) (v := ?_) (a' := ?_) #[true, true, true, false, true, false, false, false, false, false, false, false] rfl rfl (take_ofW HT_.out HW_.out (by kernel_rfl)) (fun _ _ _ h => h) (Or.inl ⟨by rfl, ?_⟩) hHeld ?_ ?_
          rotate_left
          · rintro w' ⟨s0, s1, s2⟩
            go_simp
            with_reducible rfl
          rotate_left
          · simp only [Act.put, List.setIfInBounds_toArray, List.set_cons_zero, List.set_cons_succ, i64_w, i32_w]
            rfl
          refine join_ (σ := Value) 6 #[true, true, true, true, true, true, false, false, false, false, false, false] (fun s_ => [(25, .int .i64 t435), (27, s_)]) (fun s_ w' => (w'.cell? ⟨gb419, 0, none⟩ = some (.int .i64 t412) ∧ w'.cell? ⟨gb419, 1, none⟩ = some (.int .i64 t413) ∧ w'.cell? ⟨gb419, 2, none⟩ = some (.slice Ao48 t414.length co48)) ∧ (Kd.R k48 48 w' w.heap.size (fun _ => True) (.slice Ao48 t414.length co48) t414) ∧ (Kd.R (Kd.int .i64) 3 w' w.heap.size (fun _ => True) s_ y438) ∧ (w'.heap[gb411]? = some (.cells #[.int .i64 0, .int .i64 0, .slice none 0 0] 24 (0, 0))) ∧ (w'.heap[gb419]? = some (.cells #[.int .i64 t412, .int .i64 t413, .slice Ao48 t414.length co48] 24 (0, 0))) ∧ (IsS72 w0 w' g s0_0 t436 t437) ∧ (KeepBut w w' g none) ∧ (Below w0.heap.size w0 w')) ?_ ?_
          rotate_left
          · intro hCont
            refine two_ (i := 3) (j := 5) (Ni := some 25) (Nj := some 27) #[true, true, true, true, true, false, false, false, false, false, false, false] #[true, true, true, false, true, true, false, false, false, false, false, false] rfl rfl rfl rfl (two_of HT_.out (by kernel_rfl)) (by decide) (by decide) (fun K hK => ?_) (fun K hK => ?_)
            · skip
              refine goes_ Try.func60 (by kernel_rfl) rfl #[.pointer (some ⟨g, 0, none⟩), .int .i64 8] (by rfl) rfl rfl tm_ ?_
              with_reducible refine (spec_l1Below.calls g s0_0 t421 t422 8 t435 t436 t437 w0 _ ?side1 ?side2 A39.out).mono ?_
              (case side1 => repeat (first | (with_reducible first | exact HI0.out | apply IsS72.alloc | apply IsS72.drewN | apply IsS72.drew | apply IsS72.set_1 | apply IsS72.set_2 | refine IsS72.far ?_ NB0_411.out _ | refine IsS72.far ?_ NB0_419.out _) | exact HI0.out))
              (case side2 => repeat (first | (with_reducible first | exact HB.out | apply bA_ | apply bN_ | apply bD_ | refine bS_ ?_ (IsS72.ge HI0.out) | refine bS_ ?_ GE411.out | refine bS_ ?_ GE419.out) | exact HB.out))
              rintro e w51 ⟨rfl, hi, hb, hk⟩
              refine ⟨_, rfl, ?_⟩
              replace BK411 := As_ (KeepBut.blk hk (g' := gb411) (o := .cells #[.int .i64 0, .int .i64 0, .slice none 0 0] 24 (0, 0)) (ak_ BK411.out) NB411_0.out (by simp))
              replace HO416 := As_ (Kd.R_mono (Kd.R_keep (IsS72.apart (show IsS72 w0 _ g s0_0 t421 t422 from by repeat (first | (with_reducible first | exact HI0.out | apply IsS72.alloc | apply IsS72.drewN | apply IsS72.drew | apply IsS72.set_1 | apply IsS72.set_2 | refine IsS72.far ?_ NB0_411.out _ | refine IsS72.far ?_ NB0_419.out _) | exact HI0.out)) (rk_ HO416.out) (by decide)) hk (fun _ h => h.2)) (fun _ h => h.1))
              replace BK419 := As_ (KeepBut.blk hk (g' := gb419) (o := .cells #[.int .i64 t412, .int .i64 t413, .slice Ao48 t414.length co48] 24 (0, 0)) (ak_ BK419.out) NB419_0.out (by simp))
              replace HK := As_ (KeepBut.trans (zk2_ HK.out GW411.out GW419.out) hk (.inl rfl))
              replace HB := As_ (hb)
              replace HI0 := As_ (hi)
              (try clear hb)
              (try clear hb2)
              (try clear hk)
              (try clear hi)
              refine hK.out _ _ ⟨(blk_cell BK419.out 0).trans rfl, (blk_cell BK419.out 1).trans rfl, (blk_cell BK419.out 2).trans rfl⟩ (fun hHeld => ?_)
              clear hK K
              refine norm_ (a' := ?_) ?_ ?_
              rotate_left
              · show Act.put _ (some 25) _ = _
                simp only [Act.put, List.setIfInBounds_toArray, List.set_cons_zero, List.set_cons_succ, i64_w, i32_w]
                rfl
              refine one_ (i := 5) (N := some 27) #[true, true, true, true, true, true, false, false, false, false, false, false] rfl rfl (one_of HT_.out (by kernel_rfl)) (by decide) (fun K hK => ?_)
              refine Kd.R_lit_step (Kd.int .i64) _ 3 ?hg (N := 27) ?hd (xs := ([(-2147483648), 2147483647, 0, (-5)] : List Int)) (inner := [.int .i64 (-2147483648), .int .i64 2147483647, .int .i64 0, .int .i64 (-5)]) (ok := fun _ => True) (okp := fun _ => True) ?hr ?hp (fun _ hk => hk) trivial (Below.refl _ _) (Nat.le_refl _) (by simp) ?_; (case hd => rfl); (case hg => rfl); (case hr => first | (go_simp; done) | (go_simp; rfl)); (case hp => exact (Reps.one (show Kd.M (Kd.int .i64) _ _ _ (-2147483648) [.int .i64 (-2147483648)] from rfl) (Reps.one (show Kd.M (Kd.int .i64) _ _ _ 2147483647 [.int .i64 2147483647] from rfl) (Reps.one (show Kd.M (Kd.int .i64) _ _ _ 0 [.int .i64 0] from rfl) (Reps.one (show Kd.M (Kd.int .i64) _ _ _ (-5) [.int .i64 (-5)] from rfl) (Reps.none _ _))))))
              intro v439 w52 ho53 hb hg_ hnew_
              clear hg_ hnew_
              (first | rw [← Ny438.out] at ho53 | (simp only [Int.reduceToNat] at ho53; rw [← Ny438.out] at ho53))
              have n0_ := As_ (Kd.R_below (rk_ HO416.out) hb)
              have n1_ := As_ (Kd.R_lower ho53 (keep_size (w := w) (g := g) (row := none) (zk2_ HK.out GW411.out GW419.out)))
              have n2_ := As_ (IsS72.below (by repeat (first | (with_reducible first | exact HI0.out | apply IsS72.alloc | apply IsS72.drewN | apply IsS72.drew | apply IsS72.set_1 | apply IsS72.set_2 | refine IsS72.far ?_ NB0_411.out _ | refine IsS72.far ?_ NB0_419.out _) | exact HI0.out)) hb)
              have n3_ := As_ (blk_below (g := gb411) (o := .cells #[.int .i64 0, .int .i64 0, .slice none 0 0] 24 (0, 0)) (ak_ BK411.out) hb)
              have n4_ := As_ (blk_below (g := gb419) (o := .cells #[.int .i64 t412, .int .i64 t413, .slice Ao48 t414.length co48] 24 (0, 0)) (ak_ BK419.out) hb)
              have n5_ := As_ (KeepBut.trans (zk2_ HK.out GW411.out GW419.out) (KeepBut.of_below hb g none) (.inl rfl))
              have n6_ := As_ (below_step (zb3_ HB.out (IsS72.ge HI0.out) GE411.out GE419.out) hb)
              clear HO416 HI0 BK411 BK419 HK HB
              have HO416 := n0_
              have HO440 := n1_
              have HI0 := n2_
              have BK411 := n3_
              have BK419 := n4_
              have HK := n5_
              have HB := n6_
              clear n0_ n1_ n2_ n3_ n4_ n5_ n6_ hb ho53
              refine hK.out _ _ ⟨(blk_cell BK419.out 0).trans rfl, (blk_cell BK419.out 1).trans rfl, (blk_cell BK419.out 2).trans rfl⟩ (fun hHeld => ?_)
              clear hK K
              refine norm_ (a' := ?_) ?_ ?_
              rotate_left
              · show Act.put _ (some 27) _ = _
                simp only [Act.put, List.setIfInBounds_toArray, List.set_cons_zero, List.set_cons_succ, i64_w, i32_w]
                rfl
              exact norm_ (by simp only [putAll, Act.put, List.setIfInBounds_toArray, List.set_cons_zero, List.set_cons_succ]) (hCont (v439) _ ⟨hHeld, (rk_ HO416.out), (rk_ HO440.out), (ak_ BK411.out), (ak_ BK419.out), (by repeat (first | (with_reducible first | exact HI0.out | apply IsS72.alloc | apply IsS72.drewN | apply IsS72.drew | apply IsS72.set_1 | apply IsS72.set_2 | refine IsS72.far ?_ NB0_411.out _ | refine IsS72.far ?_ NB0_419.out _) | exact HI0.out)), (zk2_ HK.out GW411.out GW419.out), (zb3_ HB.out (IsS72.ge HI0.out) GE411.out GE419.out)⟩)
            · skip
              refine Kd.R_lit_step (Kd.int .i64) _ 3 ?hg (N := 27) ?hd (xs := ([(-2147483648), 2147483647, 0, (-5)] : List Int)) (inner := [.int .i64 (-2147483648), .int .i64 2147483647, .int .i64 0, .int .i64 (-5)]) (ok := fun _ => True) (okp := fun _ => True) ?hr ?hp (fun _ hk => hk) trivial (Below.refl _ _) (Nat.le_refl _) (by simp) ?_; (case hd => rfl); (case hg => rfl); (case hr => first | (go_simp; done) | (go_simp; rfl)); (case hp => exact (Reps.one (show Kd.M (Kd.int .i64) _ _ _ (-2147483648) [.int .i64 (-2147483648)] from rfl) (Reps.one (show Kd.M (Kd.int .i64) _ _ _ 2147483647 [.int .i64 2147483647] from rfl) (Reps.one (show Kd.M (Kd.int .i64) _ _ _ 0 [.int .i64 0] from rfl) (Reps.one (show Kd.M (Kd.int .i64) _ _ _ (-5) [.int .i64 (-5)] from rfl) (Reps.none _ _))))))
              intro v439 w51 ho52 hb hg_ hnew_
              clear hg_ hnew_
              (first | rw [← Ny438.out] at ho52 | (simp only [Int.reduceToNat] at ho52; rw [← Ny438.out] at ho52))
              have n0_ := As_ (Kd.R_below (rk_ HO416.out) hb)
              have n1_ := As_ (Kd.R_lower ho52 (keep_size (w := w) (g := g) (row := none) (zk2_ HK.out GW411.out GW419.out)))
              have n2_ := As_ (IsS72.below (by repeat (first | (with_reducible first | exact HI0.out | apply IsS72.alloc | apply IsS72.drewN | apply IsS72.drew | apply IsS72.set_1 | apply IsS72.set_2 | refine IsS72.far ?_ NB0_411.out _ | refine IsS72.far ?_ NB0_419.out _) | exact HI0.out)) hb)
              have n3_ := As_ (blk_below (g := gb411) (o := .cells #[.int .i64 0, .int .i64 0, .slice none 0 0] 24 (0, 0)) (ak_ BK411.out) hb)
              have n4_ := As_ (blk_below (g := gb419) (o := .cells #[.int .i64 t412, .int .i64 t413, .slice Ao48 t414.length co48] 24 (0, 0)) (ak_ BK419.out) hb)
              have n5_ := As_ (KeepBut.trans (zk2_ HK.out GW411.out GW419.out) (KeepBut.of_below hb g none) (.inl rfl))
              have n6_ := As_ (below_step (zb3_ HB.out (IsS72.ge HI0.out) GE411.out GE419.out) hb)
              clear HO416 HI0 BK411 BK419 HK HB
              have HO416 := n0_
              have HO440 := n1_
              have HI0 := n2_
              have BK411 := n3_
              have BK419 := n4_
              have HK := n5_
              have HB := n6_
              clear n0_ n1_ n2_ n3_ n4_ n5_ n6_ hb ho52
              refine hK.out _ _ ⟨(blk_cell BK419.out 0).trans rfl, (blk_cell BK419.out 1).trans rfl, (blk_cell BK419.out 2).trans rfl⟩ (fun hHeld => ?_)
              clear hK K
              refine norm_ (a' := ?_) ?_ ?_
              rotate_left
              · show Act.put _ (some 27) _ = _
                simp only [Act.put, List.setIfInBounds_toArray, List.set_cons_zero, List.set_cons_succ, i64_w, i32_w]
                rfl
              refine one_ (i := 3) (N := some 25) #[true, true, true, true, true, true, false, false, false, false, false, false] rfl rfl (one_of HT_.out (by kernel_rfl)) (by decide) (fun K hK => ?_)
              refine goes_ Try.func60 (by kernel_rfl) rfl #[.pointer (some ⟨g, 0, none⟩), .int .i64 8] (by rfl) rfl rfl tm_ ?_
              with_reducible refine (spec_l1Below.calls g s0_0 t421 t422 8 t435 t436 t437 w0 _ ?side1 ?side2 A39.out).mono ?_
              (case side1 => repeat (first | (with_reducible first | exact HI0.out | apply IsS72.alloc | apply IsS72.drewN | apply IsS72.drew | apply IsS72.set_1 | apply IsS72.set_2 | refine IsS72.far ?_ NB0_411.out _ | refine IsS72.far ?_ NB0_419.out _) | exact HI0.out))
              (case side2 => repeat (first | (with_reducible first | exact HB.out | apply bA_ | apply bN_ | apply bD_ | refine bS_ ?_ (IsS72.ge HI0.out) | refine bS_ ?_ GE411.out | refine bS_ ?_ GE419.out) | exact HB.out))
              rintro e w53 ⟨rfl, hi, hb, hk⟩
              refine ⟨_, rfl, ?_⟩
              replace BK411 := As_ (KeepBut.blk hk (g' := gb411) (o := .cells #[.int .i64 0, .int .i64 0, .slice none 0 0] 24 (0, 0)) (ak_ BK411.out) NB411_0.out (by simp))
              replace HO416 := As_ (Kd.R_mono (Kd.R_keep (IsS72.apart (show IsS72 w0 _ g s0_0 t421 t422 from by repeat (first | (with_reducible first | exact HI0.out | apply IsS72.alloc | apply IsS72.drewN | apply IsS72.drew | apply IsS72.set_1 | apply IsS72.set_2 | refine IsS72.far ?_ NB0_411.out _ | refine IsS72.far ?_ NB0_419.out _) | exact HI0.out)) (rk_ HO416.out) (by decide)) hk (fun _ h => h.2)) (fun _ h => h.1))
              replace BK419 := As_ (KeepBut.blk hk (g' := gb419) (o := .cells #[.int .i64 t412, .int .i64 t413, .slice Ao48 t414.length co48] 24 (0, 0)) (ak_ BK419.out) NB419_0.out (by simp))
              replace HO440 := As_ (Kd.R_mono (Kd.R_keep (IsS72.apart (show IsS72 w0 _ g s0_0 t421 t422 from by repeat (first | (with_reducible first | exact HI0.out | apply IsS72.alloc | apply IsS72.drewN | apply IsS72.drew | apply IsS72.set_1 | apply IsS72.set_2 | refine IsS72.far ?_ NB0_411.out _ | refine IsS72.far ?_ NB0_419.out _) | exact HI0.out)) (rk_ HO440.out) (by decide)) hk (fun _ h => h.2)) (fun _ h => h.1))
              replace HK := As_ (KeepBut.trans (zk2_ HK.out GW411.out GW419.out) hk (.inl rfl))
              replace HB := As_ (hb)
              replace HI0 := As_ (hi)
              (try clear hb)
              (try clear hb2)
              (try clear hk)
              (try clear hi)
              refine hK.out _ _ ⟨(blk_cell BK419.out 0).trans rfl, (blk_cell BK419.out 1).trans rfl, (blk_cell BK419.out 2).trans rfl⟩ (fun hHeld => ?_)
              clear hK K
              refine norm_ (a' := ?_) ?_ ?_
              rotate_left
              · show Act.put _ (some 25) _ = _
                simp only [Act.put, List.setIfInBounds_toArray, List.set_cons_zero, List.set_cons_succ, i64_w, i32_w]
                rfl
              exact norm_ (by simp only [putAll, Act.put, List.setIfInBounds_toArray, List.set_cons_zero, List.set_cons_succ]) (hCont (v439) _ ⟨hHeld, (rk_ HO416.out), (rk_ HO440.out), (ak_ BK411.out), (ak_ BK419.out), (by repeat (first | (with_reducible first | exact HI0.out | apply IsS72.alloc | apply IsS72.drewN | apply IsS72.drew | apply IsS72.set_1 | apply IsS72.set_2 | refine IsS72.far ?_ NB0_411.out _ | refine IsS72.far ?_ NB0_419.out _) | exact HI0.out)), (zk2_ HK.out GW411.out GW419.out), (zb3_ HB.out (IsS72.ge HI0.out) GE411.out GE419.out)⟩)
          rintro v439 w54 ⟨hS_, h0_, h1_, h2_, h3_, h4_, h5_, h6_⟩
          replace HO416 : Aside0 (Kd.R k48 48 w54 w.heap.size (fun _ => True) (.slice Ao48 t414.length co48) t414) := ⟨h0_⟩
          have HO440 : Aside0 (Kd.R (Kd.int .i64) 3 w54 w.heap.size (fun _ => True) v439 y438) := ⟨h1_⟩
          replace BK411 : Aside0 (w54.heap[gb411]? = some (.cells #[.int .i64 0, .int .i64 0, .slice none 0 0] 24 (0, 0))) := ⟨h2_⟩
          replace BK419 : Aside0 (w54.heap[gb419]? = some (.cells #[.int .i64 t412, .int .i64 t413, .slice Ao48 t414.length co48] 24 (0, 0))) := ⟨h3_⟩
          replace HI0 : Aside0 (IsS72 w0 w54 g s0_0 t436 t437) := ⟨h4_⟩
          replace HK : Aside0 (KeepBut w w54 g none) := ⟨h5_⟩
          replace HB : Aside0 (Below w0.heap.size w0 w54) := ⟨h6_⟩
          clear h0_ h1_ h2_ h3_ h4_ h5_ h6_
          have hHeld : w54.cell? ⟨gb419, 0, none⟩ = some (.int .i64 t412) ∧ w54.cell? ⟨gb419, 1, none⟩ = some (.int .i64 t413) ∧ w54.cell? ⟨gb419, 2, none⟩ = some (.slice Ao48 t414.length co48) := hS_
          obtain ⟨Ao55, co55, eo55⟩ := Kd.R_slice HO440.out
          (first | subst eo55 | (injection eo55 with f1_ f2_ f3_; have f4_ := f1_.symm; have f5_ := f3_.symm; clear f1_ f2_ f3_; subst f4_; subst f5_))
          refine norm_ (a' := ?_) ?_ ?_
          rotate_left
          · simp only [putAll, Act.put, List.setIfInBounds_toArray, List.set_cons_zero, List.set_cons_succ]
            rfl
          refine one_ (i := 6) (N := some 28) #[true, true, true, true, true, true, true, false, false, false, false, false] rfl rfl (one_of HT_.out (by kernel_rfl)) (by decide) (fun K hK => ?_)
          refine goes_ Try.func54 (by kernel_rfl) rfl #[.pointer (some ⟨g, 0, none⟩), .slice Ao55 y438.length co55] (by rfl) rfl rfl tm_ ?_
          with_reducible refine (spec_l1Int.calls g s0_0 t436 t437 _ _ y438 t441 t442 t443 w0 _ ?side1 ?side2 ?side3 ?side4 ?side5 A40.out).mono ?_
          (case side1 => repeat (first | (with_reducible first | exact HI0.out | apply IsS72.alloc | apply IsS72.drewN | apply IsS72.drew | apply IsS72.set_1 | apply IsS72.set_2 | refine IsS72.far ?_ NB0_411.out _ | refine IsS72.far ?_ NB0_419.out _) | exact HI0.out))
          (case side2 => repeat (first | (with_reducible first | exact HB.out | apply bA_ | apply bN_ | apply bD_ | refine bS_ ?_ (IsS72.ge HI0.out) | refine bS_ ?_ GE411.out | refine bS_ ?_ GE419.out) | exact HB.out))
          (case side3 => repeat (first | exact (Kd.R_reads' HO440.out).2.2 | (with_reducible first | apply cA_ | apply cN_ | apply cD_)))
          (case side4 => exact (Kd.R_reads' HO440.out).2.1)
          (case side5 => exact far_slice (IsS72.own_ne HI0.out HO440.out (by decide)))
          rintro e w56 ⟨rfl, hi, hb, hk⟩
          refine ⟨_, rfl, ?_⟩
          replace BK411 := As_ (KeepBut.blk hk (g' := gb411) (o := .cells #[.int .i64 0, .int .i64 0, .slice none 0 0] 24 (0, 0)) (ak_ BK411.out) NB411_0.out (by simp))
          replace HO416 := As_ (Kd.R_mono (Kd.R_keep (IsS72.apart (show IsS72 w0 _ g s0_0 t436 t437 from by repeat (first | (with_reducible first | exact HI0.out | apply IsS72.alloc | apply IsS72.drewN | apply IsS72.drew | apply IsS72.set_1 | apply IsS72.set_2 | refine IsS72.far ?_ NB0_411.out _ | refine IsS72.far ?_ NB0_419.out _) | exact HI0.out)) (rk_ HO416.out) (by decide)) hk (fun _ h => h.2)) (fun _ h => h.1))
          replace BK419 := As_ (KeepBut.blk hk (g' := gb419) (o := .cells #[.int .i64 t412, .int .i64 t413, .slice Ao48 t414.length co48] 24 (0, 0)) (ak_ BK419.out) NB419_0.out (by simp))
          replace HO440 := As_ (Kd.R_mono (Kd.R_keep (IsS72.apart (show IsS72 w0 _ g s0_0 t436 t437 from by repeat (first | (with_reducible first | exact HI0.out | apply IsS72.alloc | apply IsS72.drewN | apply IsS72.drew | apply IsS72.set_1 | apply IsS72.set_2 | refine IsS72.far ?_ NB0_411.out _ | refine IsS72.far ?_ NB0_419.out _) | exact HI0.out)) (rk_ HO440.out) (by decide)) hk (fun _ h => h.2)) (fun _ h => h.1))
          replace HK := As_ (KeepBut.trans (zk2_ HK.out GW411.out GW419.out) hk (.inl rfl))
          replace HB := As_ (hb)
          replace HI0 := As_ (hi)
          (try clear hb)
          (try clear hb2)
          (try clear hk)
          (try clear hi)
          refine hK.out _ _ ⟨(blk_cell BK419.out 0).trans rfl, (blk_cell BK419.out 1).trans rfl, (blk_cell BK419.out 2).trans rfl⟩ (fun hHeld => ?_)
          clear hK K
          refine norm_ (a' := ?_) ?_ ?_
          rotate_left
          · show Act.put _ (some 28) _ = _
            simp only [Act.put, List.setIfInBounds_toArray, List.set_cons_zero, List.set_cons_succ, i64_w, i32_w]
            rfl
          refine pure_ (i := 7) (N := some 29) (v := ?_) (a' := ?_) #[true, true, true, true, true, true, true, true, false, false, false, false] rfl rfl (any_of HT_.out (by kernel_rfl)) (fun _ _ _ h => h) (Or.inl ⟨by rfl, ?_⟩) ?_ ?_
          rotate_left
          · intro w'
            go_simp
            with_reducible rfl
          rotate_left
          · simp only [Act.put, List.setIfInBounds_toArray, List.set_cons_zero, List.set_cons_succ, i64_w, i32_w]
            rfl
          refine one_ (i := 8) (N := some 30) #[true, true, true, true, true, true, true, true, true, false, false, false] rfl rfl (one_of HT_.out (by kernel_rfl)) (by decide) (fun K hK => ?_)
          refine value_ (w1 := ?_) (v := ?_) (by rfl) rfl ?_ ?_
          rotate_left 2
          · go_simp
            constructor
            · rfl
            · rfl
          refine hK.out _ _ ⟨(blk_cell (blk_alloc BK419.out _) 0).trans rfl, (blk_cell (blk_alloc BK419.out _) 1).trans rfl, (blk_cell (blk_alloc BK419.out _) 2).trans rfl⟩ (fun hHeld => ?_)
          clear hK K
          refine norm_ (a' := ?_) ?_ ?_
          rotate_left
          · show Act.put _ (some 30) _ = _
            simp only [Act.put, List.setIfInBounds_toArray, List.set_cons_zero, List.set_cons_succ, i64_w, i32_w]
            rfl
          refine one_ (i := 9) (N := some 31) #[true, true, true, true, true, true, true, true, true, true, false, false] rfl rfl (one_of HT_.out (by kernel_rfl)) (by decide) (fun K hK => ?_)
          refine Kd.R_append_step k48 w.heap.size (by rfl) (.tmp 23) (.tmp 30) 22 48 (.agg #[(.int .i64 0), (.int .i64 0)]) 16 rfl Try.underlying22 info48 rfl (by decide) (by omega) (.slice Ao48 t414.length co48) t414 (⟨t435, t441⟩ : S48) [.int .i64 t435, .int .i64 t441] (fun _ => True) (fun _ => False) rfl rfl ?aP (fun _ hk => hk.elim) ?aF ?aO (Below.refl _ _) ?aS ?aL ?_
          (case aP => exact k48_mkM _ _ _ (⟨t435, t441⟩ : S48))
          (case aF => exact (fun _ _ => trivial))
          (case aO => exact (rk_ HO416.out))
          (case aS => exact (keep_size (w := w) (g := g) (row := none) (zk2_ HK.out GW411.out GW419.out)))
          (case aL => have := LMc41.out; omega)
          intro v445 w57 ho hb hg hat
          rw [← Ny444.out] at ho
          have n0_ := As_ (IsS72.grown (by repeat (first | (with_reducible first | exact HI0.out | apply IsS72.alloc | apply IsS72.drewN | apply IsS72.drew | apply IsS72.set_1 | apply IsS72.set_2 | refine IsS72.far ?_ NB0_411.out _ | refine IsS72.far ?_ NB0_419.out _) | exact HI0.out)) hg (IsS72.own_ne HI0.out HO416.out (by decide)))
          have n1_ := As_ (blk_grown (g := gb411) (o := .cells #[.int .i64 0, .int .i64 0, .slice none 0 0] 24 (0, 0)) (ak_ BK411.out) hg (Kd.R_ne HO416.out BK411.out (by decide)))
          have n2_ := As_ (blk_grown (g := gb419) (o := .cells #[.int .i64 t412, .int .i64 t413, .slice Ao48 t414.length co48] 24 (0, 0)) (ak_ BK419.out) hg (Kd.R_ne HO416.out BK419.out (by decide)))
          have n3_ := As_ (Kd.R_over' (rk_ HO440.out) (Kd.R_typed (rk_ HO416.out)) (by decide) hg)
          have n4_ := As_ (below_weaken (zb3_ HB.out (IsS72.ge HI0.out) GE411.out GE419.out) HL.out hb)
          have n5_ := As_ (KeepBut.trans (zk2_ HK.out GW411.out GW419.out) (KeepBut.of_grown hg g) (Kd.R_base2 HO416.out))
          have n6_ := As_ (ho)
          clear HI0 BK411 BK419 HO440 HB HK HO416
          have HI0 := n0_
          have BK411 := n1_
          have BK419 := n2_
          have HO440 := n3_
          have HB := n4_
          have HK := n5_
          have HO446 := n6_
          clear n0_ n1_ n2_ n3_ n4_ n5_ n6_ ho hb hg hat
          obtain ⟨Ao58, co58, eo58⟩ := Kd.R_slice HO446.out
          (first | subst eo58 | (injection eo58 with f1_ f2_ f3_; have f4_ := f1_.symm; have f5_ := f3_.symm; clear f1_ f2_ f3_; subst f4_; subst f5_))
          refine hK.out _ _ ⟨(blk_cell BK419.out 0).trans rfl, (blk_cell BK419.out 1).trans rfl, (blk_cell BK419.out 2).trans rfl⟩ (fun hHeld => ?_)
          clear hK K
          refine norm_ (a' := ?_) ?_ ?_
          rotate_left
          · show Act.put _ (some 31) _ = _
            simp only [Act.put, List.setIfInBounds_toArray, List.set_cons_zero, List.set_cons_succ, i64_w, i32_w]
            rfl
          refine pure_ (i := 10) (N := some 32) (v := ?_) (a' := ?_) #[true, true, true, true, true, true, true, true, true, true, true, false] rfl rfl (any_of HT_.out (by kernel_rfl)) (fun _ _ _ h => h) (Or.inl ⟨by rfl, ?_⟩) ?_ ?_
          rotate_left
          · intro w'
            go_simp
            with_reducible rfl
          rotate_left
          · simp only [Act.put, List.setIfInBounds_toArray, List.set_cons_zero, List.set_cons_succ, i64_w, i32_w]
            rfl
          refine last_ (i := 11) (N := none) #[true, true, true, true, true, true, true, true, true, true, true, true] rfl rfl (one_of HT_.out (by kernel_rfl)) (by decide) (fun K hK => ?_)
          have hs59 : w57.cell? ⟨gb419, 2, none⟩ = some (.slice Ao48 t414.length co48) := (blk_cell BK419.out 2).trans rfl
          have hfs59 := blk_frozen BK419.out 2
          have hns59_0 := NB411_419.out
          have hms59_0 := NB419_411.out
          refine skip_ (w1 := ?_) (by rfl) rfl ?_ ?_
          rotate_left
          · go_simp
            rfl
          refine hK.out _ _ ?_
          clear hK K
          refine done_ (done_of HT_.out (by kernel_rfl)) ?_
          obtain ⟨hcz60_0, hcz60_1, hcz60_2, hfz60_0, hfz60_1, hfz60_2⟩ := blk_all3 BK419.out
          have hnb61 := NB411_0.out
          have hnc61 := NB0_411.out
          obtain ⟨hcz62_0, hcz62_1, hcz62_2, hfz62_0, hfz62_1, hfz62_2⟩ := blk_all3 BK411.out
          try go_wp2
          refine bodyPost_ret (results_cell_row rfl _ _ gb411 24 #[.int .i64 t412, .int .i64 t413, .slice Ao58 y444.length co58] (0, 0) _ rfl (ag_ NB411_419.out BK411.out) Try.underlying24 rfl (by kernel_rfl)) rfl ?_
          exact ⟨_, by first | rfl | (simp [errW_none, errW_some] <;> rfl) | (simp [*, errW_none, errW_some] <;> rfl), by (with_reducible repeat (first | apply rA_ | apply rN_ | apply rD_)); exact Kd.R_mono (Kd.R_far (p := ⟨gb411, 2, none⟩) (Kd.R_far (p := ⟨gb411, 1, none⟩) (Kd.R_far (p := ⟨gb411, 0, none⟩) (Kd.R_far (p := ⟨gb419, 2, none⟩) (Kd.R_types (Kd.R_types HO446.out BK419.out (by decide)) BK411.out (by decide)) (fun _ hk => hk.1.2) (.slice Ao58 y444.length co58)) (fun _ hk => hk.2) (.int .i64 t412)) (fun _ hk => hk.2) (.int .i64 t413)) (fun _ hk => hk.2) (.slice Ao58 y444.length co58)) (fun _ hk => trivial), by repeat (first | (with_reducible first | exact HI0.out | apply IsS72.alloc | apply IsS72.drewN | apply IsS72.drew | apply IsS72.set_1 | apply IsS72.set_2 | refine IsS72.far ?_ NB0_411.out _ | refine IsS72.far ?_ NB0_419.out _) | exact HI0.out), zb3_ HB.out (IsS72.ge HI0.out) GE411.out GE419.out, zk2_ HK.out GW411.out GW419.out⟩
        · rw [if_neg c41] at H
          exact absurd H (by simp)
      · rw [if_neg c38] at H
        have c38b0 : (t420 == 2) = false := beq_eq_false_iff_ne.mpr c38
        have c38b1 : (t420 != 2) = true := bne_iff_ne.mpr c38
        simp only [Option.some.injEq, Prod.mk.injEq] at H
        obtain ⟨rfl, rfl, rfl, rfl, rfl⟩ := H
        go_enter Try.func53, Try.ntmps53
        go_wp2_with (first | ((with_reducible refine gate_dst (N := 2) rfl ?_); refine box_event ?hg (N := 2) ?hd (cs := #[.int .i64 0, .int .i64 0, .slice none 0 0]) (t := 24) ?hr ?_; (case hd => rfl); (case hg => rfl); (case hr => first | (go_simp; done) | (go_simp; rfl)); intro gb411 hg w63 hbox hb; have n0_ := As_ (IsS72.below (by repeat (first | (with_reducible first | exact HI0.out | apply IsS72.alloc | apply IsS72.drewN | apply IsS72.drew | apply IsS72.set_1 | apply IsS72.set_2) | exact HI0.out)) hb); have n1_ := As_ (KeepBut.trans (zk0_ HK.out) (KeepBut.of_below hb g none) (.inl rfl)); have n2_ := As_ (below_step (zb1_ HB.out (IsS72.ge HI0.out)) hb); have n3_ := As_ (hbox); have n4_ := As_ ((sk_ hg (zk0_ HK.out) : w.heap.size ≤ gb411)); have n5_ := As_ ((Nat.le_trans HW0.out (sk_ hg (zk0_ HK.out) : w.heap.size ≤ gb411) : w0.heap.size ≤ gb411)); have n6_ := As_ ((by rw [hg]; exact Nat.ne_of_lt (IsS72.lt (show IsS72 w0 _ g s0_0 s0_1 s0_2 from by repeat (first | (with_reducible first | exact HI0.out | apply IsS72.alloc | apply IsS72.drewN | apply IsS72.drew | apply IsS72.set_1 | apply IsS72.set_2) | exact HI0.out))) : g ≠ gb411)); have n7_ := As_ ((by rw [hg]; exact Nat.ne_of_gt (IsS72.lt (show IsS72 w0 _ g s0_0 s0_1 s0_2 from by repeat (first | (with_reducible first | exact HI0.out | apply IsS72.alloc | apply IsS72.drewN | apply IsS72.drew | apply IsS72.set_1 | apply IsS72.set_2) | exact HI0.out))) : gb411 ≠ g)); clear HI0 HK HB; have HI0 := n0_; have HK := n1_; have HB := n2_; have BK411 := n3_; have GW411 := n4_; have GE411 := n5_; have NB0_411 := n6_; have NB411_0 := n7_; clear n0_ n1_ n2_ n3_ n4_ n5_ n6_ n7_ hb hbox hg) | ((with_reducible refine gate_callee (f := 59) rfl ?_); refine goesL_ (some 5) rfl rfl Try.func59 (by kernel_rfl) rfl #[.pointer (some ⟨g, 0, none⟩)] rfl tm_ ?_; (with_reducible refine (spec_l10Draw.calls k g s0_0 s0_1 s0_2 t412 t413 t414 t417 t418 w0 _ ?side1 ?side2 A2.out).mono ?_); (case side1 => repeat (first | (with_reducible first | exact HI0.out | apply IsS72.alloc | apply IsS72.drewN | apply IsS72.drew | apply IsS72.set_1 | apply IsS72.set_2 | refine IsS72.far ?_ NB0_411.out _) | exact HI0.out)); (case side2 => repeat (first | (with_reducible first | exact HB.out | apply bA_ | apply bN_ | apply bD_ | refine bS_ ?_ (IsS72.ge HI0.out) | refine bS_ ?_ GE411.out) | exact HB.out)); rintro e w64 ⟨v415, rfl, ho0, hi, hb, hk⟩; refine ⟨_, rfl, ?_⟩; replace BK411 := As_ (KeepBut.blk hk (g' := gb411) (o := .cells #[.int .i64 0, .int .i64 0, .slice none 0 0] 24 (0, 0)) (ak_ BK411.out) NB411_0.out (by simp)); have HO416 := As_ (Kd.R_lower ho0 (keep_size (w := w) (g := g) (row := none) (zk1_ HK.out GW411.out))); replace HK := As_ (KeepBut.trans (zk1_ HK.out GW411.out) hk (.inl rfl)); replace HB := As_ (hb); replace HI0 := As_ (hi); (try clear hb); (try clear hb2); (try clear hk); (try clear hi); (try clear ho0)) | ((with_reducible refine gate_dst (N := 3) rfl ?_); refine box_event ?hg (N := 3) ?hd (cs := #[.int .i64 0, .int .i64 0, .slice none 0 0]) (t := 24) ?hr ?_; (case hd => rfl); (case hg => rfl); (case hr => first | (go_simp; done) | (go_simp; rfl)); intro gb419 hg w65 hbox hb; have n0_ := As_ (Kd.R_below (rk_ HO416.out) hb); have n1_ := As_ (IsS72.below (by repeat (first | (with_reducible first | exact HI0.out | apply IsS72.alloc | apply IsS72.drewN | apply IsS72.drew | apply IsS72.set_1 | apply IsS72.set_2 | refine IsS72.far ?_ NB0_411.out _) | exact HI0.out)) hb); have n2_ := As_ (blk_below (g := gb411) (o := .cells #[.int .i64 0, .int .i64 0, .slice none 0 0] 24 (0, 0)) (ak_ BK411.out) hb); have n3_ := As_ (KeepBut.trans (zk1_ HK.out GW411.out) (KeepBut.of_below hb g none) (.inl rfl)); have n4_ := As_ (below_step (zb2_ HB.out (IsS72.ge HI0.out) GE411.out) hb); have n5_ := As_ (hbox); have n6_ := As_ ((sk_ hg (zk1_ HK.out GW411.out) : w.heap.size ≤ gb419)); have n7_ := As_ ((Nat.le_trans HW0.out (sk_ hg (zk1_ HK.out GW411.out) : w.heap.size ≤ gb419) : w0.heap.size ≤ gb419)); have n8_ := As_ ((nl_ hg BK411.out : gb411 ≠ gb419)); have n9_ := As_ ((ng_ hg BK411.out : gb419 ≠ gb411)); have n10_ := As_ ((by rw [hg]; exact Nat.ne_of_lt (IsS72.lt (show IsS72 w0 _ g s0_0 t417 t418 from by repeat (first | (with_reducible first | exact HI0.out | apply IsS72.alloc | apply IsS72.drewN | apply IsS72.drew | apply IsS72.set_1 | apply IsS72.set_2 | refine IsS72.far ?_ NB0_411.out _) | exact HI0.out))) : g ≠ gb419)); have n11_ := As_ ((by rw [hg]; exact Nat.ne_of_gt (IsS72.lt (show IsS72 w0 _ g s0_0 t417 t418 from by repeat (first | (with_reducible first | exact HI0.out | apply IsS72.alloc | apply IsS72.drewN | apply IsS72.drew | apply IsS72.set_1 | apply IsS72.set_2 | refine IsS72.far ?_ NB0_411.out _) | exact HI0.out))) : gb419 ≠ g)); clear HO416 HI0 BK411 HK HB; have HO416 := n0_; have HI0 := n1_; have BK411 := n2_; have HK := n3_; have HB := n4_; have BK419 := n5_; have GW419 := n6_; have GE419 := n7_; have NB411_419 := n8_; have NB419_411 := n9_; have NB0_419 := n10_; have NB419_0 := n11_; clear n0_ n1_ n2_ n3_ n4_ n5_ n6_ n7_ n8_ n9_ n10_ n11_ hb hbox hg; have hnb66 := NB419_411.out; have hnc66 := NB411_419.out; have hnb67 := NB419_0.out; have hnc67 := NB0_419.out; obtain ⟨hcz68_0, hcz68_1, hcz68_2, hfz68_0, hfz68_1, hfz68_2⟩ := blk_all3 BK419.out; obtain ⟨Ao69, co69, eo69⟩ := Kd.R_slice HO416.out; subst eo69) | ((with_reducible refine gate_callee (f := 60) rfl ?_); refine goesL_ (some 7) rfl rfl Try.func60 (by kernel_rfl) rfl #[.pointer (some ⟨g, 0, none⟩), .int .i64 12] rfl tm_ ?_; (with_reducible refine (spec_l1Below.calls g s0_0 t417 t418 12 t420 t421 t422 w0 _ ?side1 ?side2 A3.out).mono ?_); (case side1 => repeat (first | (with_reducible first | exact HI0.out | apply IsS72.alloc | apply IsS72.drewN | apply IsS72.drew | apply IsS72.set_1 | apply IsS72.set_2 | refine IsS72.far ?_ NB0_411.out _ | refine IsS72.far ?_ NB0_419.out _) | exact HI0.out)); (case side2 => repeat (first | (with_reducible first | exact HB.out | apply bA_ | apply bN_ | apply bD_ | refine bS_ ?_ (IsS72.ge HI0.out) | refine bS_ ?_ GE411.out | refine bS_ ?_ GE419.out) | exact HB.out)); rintro e w70 ⟨rfl, hi, hb, hk⟩; refine ⟨_, rfl, ?_⟩; replace BK411 := As_ (KeepBut.blk hk (g' := gb411) (o := .cells #[.int .i64 0, .int .i64 0, .slice none 0 0] 24 (0, 0)) (af_ NB411_419.out BK411.out) NB411_0.out (by simp)); replace HO416 := As_ (Kd.R_mono (Kd.R_keep (IsS72.apart (show IsS72 w0 _ g s0_0 t417 t418 from by repeat (first | (with_reducible first | exact HI0.out | apply IsS72.alloc | apply IsS72.drewN | apply IsS72.drew | apply IsS72.set_1 | apply IsS72.set_2 | refine IsS72.far ?_ NB0_411.out _ | refine IsS72.far ?_ NB0_419.out _) | exact HI0.out)) (rf3_ HO416.out BK419.out) (by decide)) hk (fun _ h => h.2)) (fun _ h => h.1)); replace BK419 := As_ (KeepBut.blk hk (g' := gb419) (o := .cells #[.int .i64 t412, .int .i64 t413, .slice Ao69 t414.length co69] 24 (0, 0)) (ap_ BK419.out) NB419_0.out (by simp)); replace HK := As_ (KeepBut.trans (zk2_ HK.out GW411.out GW419.out) hk (.inl rfl)); replace HB := As_ (hb); replace HI0 := As_ (hi); (try clear hb); (try clear hb2); (try clear hk); (try clear hi); obtain ⟨hcz71_0, hcz71_1, hcz71_2, hfz71_0, hfz71_1, hfz71_2⟩ := blk_all3 BK419.out; have hnb72 := NB411_0.out; have hnc72 := NB0_411.out; obtain ⟨hcz73_0, hcz73_1, hcz73_2, hfz73_0, hfz73_1, hfz73_2⟩ := blk_all3 BK411.out))
        refine bodyPost_ret (results_cell_row rfl _ _ gb411 24 #[.int .i64 t412, .int .i64 t413, .slice Ao69 t414.length co69] (0, 0) _ rfl (ap_ BK411.out) Try.underlying24 rfl (by kernel_rfl)) rfl ?_
        exact ⟨_, by first | rfl | (simp [errW_none, errW_some] <;> rfl) | (simp [*, errW_none, errW_some] <;> rfl), rt3_ HO416.out BK411.out, by repeat (first | (with_reducible first | exact HI0.out | apply IsS72.alloc | apply IsS72.drewN | apply IsS72.drew | apply IsS72.set_1 | apply IsS72.set_2 | refine IsS72.far ?_ NB0_411.out _ | refine IsS72.far ?_ NB0_419.out _) | exact HI0.out), zb3_ HB.out (IsS72.ge HI0.out) GE411.out GE419.out, zk2_ HK.out GW411.out GW419.out⟩

/-! ### spec_DrawOpenLane: function 36 -/
def spec_DrawOpenLane.f (k : Nat) (l0 : List Int) : Option (Int × Int × (List (S48)) × Int) := (spec_l1New.f k l0).bind fun bt448 => ((spec_l10Any.f k bt448.1 bt448.2.1 bt448.2.2).bind fun bt452 => ((spec_l1Int.f bt448.1 bt452.2.2.2.1 bt452.2.2.2.2 (([1, 3, 5, 7, 0, (-1)] : List Int))).bind fun bt462 => (some (bt452.1, bt452.2.1, bt452.2.2.1, bt462.1))))
theorem spec_DrawOpenLane.mono : ∀ a0 k, LeO (spec_DrawOpenLane.f k a0) (spec_DrawOpenLane.f (k + 1) a0) := by
  intro a0 k
  unfold spec_DrawOpenLane.f
  repeat' first
      | (with_reducible exact spec_l10Any.mono _ _ _ _)
      | (with_reducible exact spec_l1New.mono _ _)
      | (with_reducible exact LeO.refl _)
      | (with_reducible exact LeO.none _)
      | (with_reducible refine LeO.ite ?_ ?_)
      | (with_reducible refine LeO.bind ?_ (fun _ => ?_))
      | exact spec_l10Any.mono _ _ _ _
      | exact spec_l1New.mono _ _
      | exact LeO.none _
      | refine LeO.ite ?_ ?_
      | refine LeO.bind ?_ (fun _ => ?_)
set_option maxHeartbeats 8000000 in
set_option maxRecDepth 100000 in
theorem spec_DrawOpenLane.calls (k : Nat) (A0 : Option Addr) (c0 : Nat) (l0 : List Int) (r1 : Int) (r2 : Int) (r3 : List (S48)) (r4 : Int) (w : World) (hr0 : Kd.C (Kd.int .u8) w A0 l0.length l0) (hc0 : l0.length ≤ c0) (h : spec_DrawOpenLane.f k l0 = some (r1, r2, r3, r4)) :
    Calls Try.prog 36 #[.slice A0 l0.length c0] w fun e w' => ∃ v2_ : Value, e = .returned (.tuple #[.agg #[.int .i64 r1, .int .i64 r2, v2_], .int .i64 r4]) ∧ Kd.R k48 48 w' w.heap.size (fun _ => True) v2_ r3 ∧ Below w.heap.size w w' := by
  have hu24 := Try.underlying24
  have HR0 := Aside0.mk hr0
  have HC0 := Aside0.mk hc0
  clear hr0 hc0
  have HB := As_ (Below.refl w.heap.size w)
  have H : ((spec_l1New.f k l0).bind fun bt448 => ((spec_l10Any.f k bt448.1 bt448.2.1 bt448.2.2).bind fun bt452 => ((spec_l1Int.f bt448.1 bt452.2.2.2.1 bt452.2.2.2.2 (([1, 3, 5, 7, 0, (-1)] : List Int))).bind fun bt462 => (some (bt452.1, bt452.2.1, bt452.2.2.1, bt462.1))))) = some (r1, r2, r3, r4) := h
  clear h
  replace H := Option.bind_eq_some_iff.mp H
  obtain ⟨⟨t448, t449, t450⟩, A20, H⟩ := H
  replace H : ((spec_l10Any.f k t448 t449 t450).bind fun bt452 => ((spec_l1Int.f t448 bt452.2.2.2.1 bt452.2.2.2.2 (([1, 3, 5, 7, 0, (-1)] : List Int))).bind fun bt462 => (some (bt452.1, bt452.2.1, bt452.2.2.1, bt462.1)))) = some (r1, r2, r3, r4) := H
  have A2 := Aside0.mk A20
  clear A20
  replace H := Option.bind_eq_some_iff.mp H
  obtain ⟨⟨t452, t453, t454, t457, t458⟩, A30, H⟩ := H
  replace H : ((spec_l1Int.f t448 t457 t458 (([1, 3, 5, 7, 0, (-1)] : List Int))).bind fun bt462 => (some (t452, t453, t454, bt462.1))) = some (r1, r2, r3, r4) := H
  have A3 := Aside0.mk A30
  clear A30
  obtain ⟨y459, hy459⟩ : ∃ y_ : List Int, y_ = (([1, 3, 5, 7, 0, (-1)] : List Int)) := ⟨_, rfl⟩
  replace H : ((spec_l1Int.f t448 t457 t458 y459).bind fun bt462 => (some (t452, t453, t454, bt462.1))) = some (r1, r2, r3, r4) := by first | (rw [hy459]; with_reducible exact H) | (have H2_ := (Option.bind_some _ _).symm.trans H; rw [hy459]; with_reducible exact H2_) | (have H2_ := (Option.bind_some _ _).symm.trans H; with_reducible exact H2_) | with_reducible exact H | (rw [hy459]; exact H) | exact H
  have Ny459 := Aside0.mk hy459
  clear hy459
  replace H := Option.bind_eq_some_iff.mp H
  obtain ⟨⟨t462, t463, t464⟩, A40, H⟩ := H
  replace H : (some (t452, t453, t454, t462)) = some (r1, r2, r3, r4) := H
  have A4 := Aside0.mk A40
  clear A40
  simp only [Option.some.injEq, Prod.mk.injEq] at H
  obtain ⟨rfl, rfl, rfl, rfl⟩ := H
  go_enter Try.func36, Try.ntmps36
  go_wp2_with (first | ((with_reducible refine gate_dst (N := 2) rfl ?_); refine box_event ?hg (N := 2) ?hd (cs := #[.int .i64 0, .int .i64 0, .slice none 0 0]) (t := 24) ?hr ?_; (case hd => rfl); (case hg => rfl); (case hr => first | (go_simp; done) | (go_simp; rfl)); intro gb447 hg w5 hbox hb; have n0_ := As_ (below_step (zb0_ HB.out) hb); have n1_ := As_ (hbox); have n2_ := As_ ((sb_ hg (zb0_ HB.out) : w.heap.size ≤ gb447)); have n3_ := As_ ((sb_ hg (zb0_ HB.out) : w.heap.size ≤ gb447)); clear HB; have HB := n0_; have BK447 := n1_; have GW447 := n2_; have GE447 := n3_; clear n0_ n1_ n2_ n3_ hb hbox hg) | ((with_reducible refine gate_callee (f := 52) rfl ?_); refine goesL_ (some 6) rfl rfl Try.func52 (by kernel_rfl) rfl #[.slice A0 l0.length c0] rfl tm_ ?_; (with_reducible refine (spec_l1New.calls k _ _ l0 t448 t449 t450 w _ ?side1 ?side2 ?side3 A2.out).mono ?_); (case side1 => repeat (first | (with_reducible first | exact HB.out | apply bA_ | apply bN_ | apply bD_ | refine bS_ ?_ GE447.out) | exact HB.out)); (case side2 => exact HR0.out); (case side3 => exact HC0.out); rintro e w6 ⟨g451, rfl, hi, hb, hb2⟩; refine ⟨_, rfl, ?_⟩; have n0_ := As_ (blk_below (g := gb447) (o := .cells #[.int .i64 0, .int .i64 0, .slice none 0 0] 24 (0, 0)) (ak_ BK447.out) hb2); replace HB := As_ (hb); have HI451 := As_ (hi); have NB451_447 := As_ (IsS72.ne_blk hi (blk_below (g := gb447) (o := .cells #[.int .i64 0, .int .i64 0, .slice none 0 0] 24 (0, 0)) (ak_ BK447.out) hb2) (by decide)); have NB447_451 := As_ (Ne.symm (IsS72.ne_blk hi (blk_below (g := gb447) (o := .cells #[.int .i64 0, .int .i64 0, .slice none 0 0] 24 (0, 0)) (ak_ BK447.out) hb2) (by decide))); clear BK447; have BK447 := n0_; clear n0_; (try clear hb); (try clear hb2); (try clear hk); (try clear hi)) | ((with_reducible refine gate_callee (f := 53) rfl ?_); refine goesL_ (some 8) rfl rfl Try.func53 (by kernel_rfl) rfl #[.pointer (some ⟨g451, 0, none⟩)] rfl tm_ ?_; (with_reducible refine (spec_l10Any.calls k g451 t448 t449 t450 t452 t453 t454 t457 t458 w _ ?side1 ?side2 A3.out).mono ?_); (case side1 => repeat (first | (with_reducible first | exact HI451.out | apply IsS72.alloc | apply IsS72.drewN | apply IsS72.drew | apply IsS72.set_1 | apply IsS72.set_2 | refine IsS72.far ?_ NB451_447.out _) | exact HI451.out)); (case side2 => repeat (first | (with_reducible first | exact HB.out | apply bA_ | apply bN_ | apply bD_ | refine bS_ ?_ (IsS72.ge HI451.out) | refine bS_ ?_ GE447.out) | exact HB.out)); rintro e w7 ⟨v455, rfl, ho0, hi, hb, hk⟩; refine ⟨_, rfl, ?_⟩; replace BK447 := As_ (KeepBut.blk hk (g' := gb447) (o := .cells #[.int .i64 0, .int .i64 0, .slice none 0 0] 24 (0, 0)) (ak_ BK447.out) NB447_451.out (by simp)); have HO456 := As_ (Kd.R_lower ho0 (below_size (zb2_ HB.out (IsS72.ge HI451.out) GE447.out))); replace HB := As_ (hb); replace HI451 := As_ (hi); (try clear hb); (try clear hb2); (try clear hk); (try clear hi); (try clear ho0)) | ((with_reducible refine gate_dst (N := 10) rfl ?_); refine Kd.R_lit (Kd.int .i64) _ 3 ?hg (N := 10) ?hd (xs := ([1, 3, 5, 7, 0, (-1)] : List Int)) (inner := [.int .i64 1, .int .i64 3, .int .i64 5, .int .i64 7, .int .i64 0, .int .i64 (-1)]) (ok := fun _ => True) (okp := fun _ => True) ?hr ?hp (fun _ hk => hk) trivial (Below.refl _ _) (Nat.le_refl _) (by simp) ?_; (case hd => rfl); (case hg => rfl); (case hr => first | (go_simp; done) | (go_simp; rfl)); (case hp => exact (Reps.one (show Kd.M (Kd.int .i64) _ _ _ 1 [.int .i64 1] from rfl) (Reps.one (show Kd.M (Kd.int .i64) _ _ _ 3 [.int .i64 3] from rfl) (Reps.one (show Kd.M (Kd.int .i64) _ _ _ 5 [.int .i64 5] from rfl) (Reps.one (show Kd.M (Kd.int .i64) _ _ _ 7 [.int .i64 7] from rfl) (Reps.one (show Kd.M (Kd.int .i64) _ _ _ 0 [.int .i64 0] from rfl) (Reps.one (show Kd.M (Kd.int .i64) _ _ _ (-1) [.int .i64 (-1)] from rfl) (Reps.none _ _)))))))); intro v460 w8 ho9 hb hg_ hnew_; clear hg_ hnew_; (first | rw [← Ny459.out] at ho9 | (simp only [Int.reduceToNat] at ho9; rw [← Ny459.out] at ho9)); have n0_ := As_ (Kd.R_below (rk_ HO456.out) hb); have n1_ := As_ (Kd.R_lower ho9 (below_size (zb2_ HB.out (IsS72.ge HI451.out) GE447.out))); have n2_ := As_ (blk_below (g := gb447) (o := .cells #[.int .i64 0, .int .i64 0, .slice none 0 0] 24 (0, 0)) (ak_ BK447.out) hb); have n3_ := As_ (IsS72.below (by repeat (first | (with_reducible first | exact HI451.out | apply IsS72.alloc | apply IsS72.drewN | apply IsS72.drew | apply IsS72.set_1 | apply IsS72.set_2 | refine IsS72.far ?_ NB451_447.out _) | exact HI451.out)) hb); have n4_ := As_ (below_step (zb2_ HB.out (IsS72.ge HI451.out) GE447.out) hb); clear HO456 BK447 HI451 HB; have HO456 := n0_; have HO461 := n1_; have BK447 := n2_; have HI451 := n3_; have HB := n4_; clear n0_ n1_ n2_ n3_ n4_ hb ho9; obtain ⟨Ao10, co10, eo10⟩ := Kd.R_slice HO461.out; subst eo10) | ((with_reducible refine gate_callee (f := 54) rfl ?_); refine goesL_ (some 11) rfl rfl Try.func54 (by kernel_rfl) rfl #[.pointer (some ⟨g451, 0, none⟩), .slice Ao10 y459.length co10] rfl tm_ ?_; (with_reducible refine (spec_l1Int.calls g451 t448 t457 t458 _ _ y459 t462 t463 t464 w _ ?side1 ?side2 ?side3 ?side4 ?side5 A4.out).mono ?_); (case side1 => repeat (first | (with_reducible first | exact HI451.out | apply IsS72.alloc | apply IsS72.drewN | apply IsS72.drew | apply IsS72.set_1 | apply IsS72.set_2 | refine IsS72.far ?_ NB451_447.out _) | exact HI451.out)); (case side2 => repeat (first | (with_reducible first | exact HB.out | apply bA_ | apply bN_ | apply bD_ | refine bS_ ?_ (IsS72.ge HI451.out) | refine bS_ ?_ GE447.out) | exact HB.out)); (case side3 => repeat (first | exact (Kd.R_reads' HO461.out).2.2 | (with_reducible first | apply cA_ | apply cN_ | apply cD_))); (case side4 => exact (Kd.R_reads' HO461.out).2.1); (case side5 => exact far_slice (IsS72.own_ne HI451.out HO461.out (by decide))); rintro e w11 ⟨rfl, hi, hb, hk⟩; refine ⟨_, rfl, ?_⟩; replace BK447 := As_ (KeepBut.blk hk (g' := gb447) (o := .cells #[.int .i64 0, .int .i64 0, .slice none 0 0] 24 (0, 0)) (ak_ BK447.out) NB447_451.out (by simp)); replace HO456 := As_ (Kd.R_mono (Kd.R_keep (IsS72.apart (show IsS72 w _ g451 t448 t457 t458 from by repeat (first | (with_reducible first | exact HI451.out | apply IsS72.alloc | apply IsS72.drewN | apply IsS72.drew | apply IsS72.set_1 | apply IsS72.set_2 | refine IsS72.far ?_ NB451_447.out _) | exact HI451.out)) (rk_ HO456.out) (by decide)) hk (fun _ h => h.2)) (fun _ h => h.1)); replace HO461 := As_ (Kd.R_mono (Kd.R_keep (IsS72.apart (show IsS72 w _ g451 t448 t457 t458 from by repeat (first | (with_reducible first | exact HI451.out | apply IsS72.alloc | apply IsS72.drewN | apply IsS72.drew | apply IsS72.set_1 | apply IsS72.set_2 | refine IsS72.far ?_ NB451_447.out _) | exact HI451.out)) (rk_ HO461.out) (by decide)) hk (fun _ h => h.2)) (fun _ h => h.1)); replace HB := As_ (hb); replace HI451 := As_ (hi); (try clear hb); (try clear hb2); (try clear hk); (try clear hi); have hnb12 := NB447_451.out; have hnc12 := NB451_447.out; obtain ⟨hcz13_0, hcz13_1, hcz13_2, hfz13_0, hfz13_1, hfz13_2⟩ := blk_all3 BK447.out; obtain ⟨Ao14, co14, eo14⟩ := Kd.R_slice HO456.out; subst eo14))
  refine bodyPost_ret (results_ct rfl _ _ gb447 24 #[.int .i64 t452, .int .i64 t453, .slice Ao14 t454.length co14] (0, 0) _ rfl (ap_ BK447.out) Try.underlying24 rfl (by kernel_rfl)) rfl ?_
  exact ⟨_, by first | rfl | (simp [errW_none, errW_some] <;> rfl) | (simp [*, errW_none, errW_some] <;> rfl), rt3_ HO456.out BK447.out, zb2_ HB.out (IsS72.ge HI451.out) GE447.out⟩

/-! ### spec_DrawNewInit: function 37 -/
def spec_DrawNewInit.f (k : Nat) (l0 : List Int) : Option (Int × Int × (List (S48)) × Int) := (spec_l1New.f k l0).bind fun bt466 => ((spec_l10Any.f k bt466.1 bt466.2.1 bt466.2.2).bind fun bt470 => ((spec_l1Int.f bt466.1 bt470.2.2.2.1 bt470.2.2.2.2 (([0, 10, 100, 2147483647, (-1), 2147483648] : List Int))).bind fun bt480 => (some (bt470.1, bt470.2.1, bt470.2.2.1, bt480.1))))
theorem spec_DrawNewInit.mono : ∀ a0 k, LeO (spec_DrawNewInit.f k a0) (spec_DrawNewInit.f (k + 1) a0) := by
  intro a0 k
  unfold spec_DrawNewInit.f
  repeat' first
      | (with_reducible exact spec_l10Any.mono _ _ _ _)
      | (with_reducible exact spec_l1New.mono _ _)
      | (with_reducible exact LeO.refl _)
      | (with_reducible exact LeO.none _)
      | (with_reducible refine LeO.ite ?_ ?_)
      | (with_reducible refine LeO.bind ?_ (fun _ => ?_))
      | exact spec_l10Any.mono _ _ _ _
      | exact spec_l1New.mono _ _
      | exact LeO.none _
      | refine LeO.ite ?_ ?_
      | refine LeO.bind ?_ (fun _ => ?_)
set_option maxHeartbeats 8000000 in
set_option maxRecDepth 100000 in
theorem spec_DrawNewInit.calls (k : Nat) (A0 : Option Addr) (c0 : Nat) (l0 : List Int) (r1 : Int) (r2 : Int) (r3 : List (S48)) (r4 : Int) (w : World) (hr0 : Kd.C (Kd.int .u8) w A0 l0.length l0) (hc0 : l0.length ≤ c0) (h : spec_DrawNewInit.f k l0 = some (r1, r2, r3, r4)) :
    Calls Try.prog 37 #[.slice A0 l0.length c0] w fun e w' => ∃ v2_ : Value, e = .returned (.tuple #[.agg #[.int .i64 r1, .int .i64 r2, v2_], .int .i64 r4]) ∧ Kd.R k48 48 w' w.heap.size (fun _ => True) v2_ r3 ∧ Below w.heap.size w w' := by
  have hu24 := Try.underlying24
  have HR0 := Aside0.mk hr0
  have HC0 := Aside0.mk hc0
  clear hr0 hc0
  have HB := As_ (Below.refl w.heap.size w)
  have H : ((spec_l1New.f k l0).bind fun bt466 => ((spec_l10Any.f k bt466.1 bt466.2.1 bt466.2.2).bind fun bt470 => ((spec_l1Int.f bt466.1 bt470.2.2.2.1 bt470.2.2.2.2 (([0, 10, 100, 2147483647, (-1), 2147483648] : List Int))).bind fun bt480 => (some (bt470.1, bt470.2.1, bt470.2.2.1, bt480.1))))) = some (r1, r2, r3, r4) := h
  clear h
  replace H := Option.bind_eq_some_iff.mp H
  obtain ⟨⟨t466, t467, t468⟩, A20, H⟩ := H
  replace H : ((spec_l10Any.f k t466 t467 t468).bind fun bt470 => ((spec_l1Int.f t466 bt470.2.2.2.1 bt470.2.2.2.2 (([0, 10, 100, 2147483647, (-1), 2147483648] : List Int))).bind fun bt480 => (some (bt470.1, bt470.2.1, bt470.2.2.1, bt480.1)))) = some (r1, r2, r3, r4) := H
  have A2 := Aside0.mk A20
  clear A20
  replace H := Option.bind_eq_some_iff.mp H
  obtain ⟨⟨t470, t471, t472, t475, t476⟩, A30, H⟩ := H
  replace H : ((spec_l1Int.f t466 t475 t476 (([0, 10, 100, 2147483647, (-1), 2147483648] : List Int))).bind fun bt480 => (some (t470, t471, t472, bt480.1))) = some (r1, r2, r3, r4) := H
  have A3 := Aside0.mk A30
  clear A30
  obtain ⟨y477, hy477⟩ : ∃ y_ : List Int, y_ = (([0, 10, 100, 2147483647, (-1), 2147483648] : List Int)) := ⟨_, rfl⟩
  replace H : ((spec_l1Int.f t466 t475 t476 y477).bind fun bt480 => (some (t470, t471, t472, bt480.1))) = some (r1, r2, r3, r4) := by first | (rw [hy477]; with_reducible exact H) | (have H2_ := (Option.bind_some _ _).symm.trans H; rw [hy477]; with_reducible exact H2_) | (have H2_ := (Option.bind_some _ _).symm.trans H; with_reducible exact H2_) | with_reducible exact H | (rw [hy477]; exact H) | exact H
  have Ny477 := Aside0.mk hy477
  clear hy477
  replace H := Option.bind_eq_some_iff.mp H
  obtain ⟨⟨t480, t481, t482⟩, A40, H⟩ := H
  replace H : (some (t470, t471, t472, t480)) = some (r1, r2, r3, r4) := H
  have A4 := Aside0.mk A40
  clear A40
  simp only [Option.some.injEq, Prod.mk.injEq] at H
  obtain ⟨rfl, rfl, rfl, rfl⟩ := H
  go_enter Try.func37, Try.ntmps37
  go_wp2_with (first | ((with_reducible refine gate_dst (N := 2) rfl ?_); refine box_event ?hg (N := 2) ?hd (cs := #[.int .i64 0, .int .i64 0, .slice none 0 0]) (t := 24) ?hr ?_; (case hd => rfl); (case hg => rfl); (case hr => first | (go_simp; done) | (go_simp; rfl)); intro gb465 hg w5 hbox hb; have n0_ := As_ (below_step (zb0_ HB.out) hb); have n1_ := As_ (hbox); have n2_ := As_ ((sb_ hg (zb0_ HB.out) : w.heap.size ≤ gb465)); have n3_ := As_ ((sb_ hg (zb0_ HB.out) : w.heap.size ≤ gb465)); clear HB; have HB := n0_; have BK465 := n1_; have GW465 := n2_; have GE465 := n3_; clear n0_ n1_ n2_ n3_ hb hbox hg) | ((with_reducible refine gate_callee (f := 52) rfl ?_); refine goesL_ (some 6) rfl rfl Try.func52 (by kernel_rfl) rfl #[.slice A0 l0.length c0] rfl tm_ ?_; (with_reducible refine (spec_l1New.calls k _ _ l0 t466 t467 t468 w _ ?side1 ?side2 ?side3 A2.out).mono ?_); (case side1 => repeat (first | (with_reducible first | exact HB.out | apply bA_ | apply bN_ | apply bD_ | refine bS_ ?_ GE465.out) | exact HB.out)); (case side2 => exact HR0.out); (case side3 => exact HC0.out); rintro e w6 ⟨g469, rfl, hi, hb, hb2⟩; refine ⟨_, rfl, ?_⟩; have n0_ := As_ (blk_below (g := gb465) (o := .cells #[.int .i64 0, .int .i64 0, .slice none 0 0] 24 (0, 0)) (ak_ BK465.out) hb2); replace HB := As_ (hb); have HI469 := As_ (hi); have NB469_465 := As_ (IsS72.ne_blk hi (blk_below (g := gb465) (o := .cells #[.int .i64 0, .int .i64 0, .slice none 0 0] 24 (0, 0)) (ak_ BK465.out) hb2) (by decide)); have NB465_469 := As_ (Ne.symm (IsS72.ne_blk hi (blk_below (g := gb465) (o := .cells #[.int .i64 0, .int .i64 0, .slice none 0 0] 24 (0, 0)) (ak_ BK465.out) hb2) (by decide))); clear BK465; have BK465 := n0_; clear n0_; (try clear hb); (try clear hb2); (try clear hk); (try clear hi)) | ((with_reducible refine gate_callee (f := 53) rfl ?_); refine goesL_ (some 8) rfl rfl Try.func53 (by kernel_rfl) rfl #[.pointer (some ⟨g469, 0, none⟩)] rfl tm_ ?_; (with_reducible refine (spec_l10Any.calls k g469 t466 t467 t468 t470 t471 t472 t475 t476 w _ ?side1 ?side2 A3.out).mono ?_); (case side1 => repeat (first | (with_reducible first | exact HI469.out | apply IsS72.alloc | apply IsS72.drewN | apply IsS72.drew | apply IsS72.set_1 | apply IsS72.set_2 | refine IsS72.far ?_ NB469_465.out _) | exact HI469.out)); (case side2 => repeat (first | (with_reducible first | exact HB.out | apply bA_ | apply bN_ | apply bD_ | refine bS_ ?_ (IsS72.ge HI469.out) | refine bS_ ?_ GE465.out) | exact HB.out)); rintro e w7 ⟨v473, rfl, ho0, hi, hb, hk⟩; refine ⟨_, rfl, ?_⟩; replace BK465 := As_ (KeepBut.blk hk (g' := gb465) (o := .cells #[.int .i64 0, .int .i64 0, .slice none 0 0] 24 (0, 0)) (ak_ BK465.out) NB465_469.out (by simp)); have HO474 := As_ (Kd.R_lower ho0 (below_size (zb2_ HB.out (IsS72.ge HI469.out) GE465.out))); replace HB := As_ (hb); replace HI469 := As_ (hi); (try clear hb); (try clear hb2); (try clear hk); (try clear hi); (try clear ho0)) | ((with_reducible refine gate_dst (N := 10) rfl ?_); refine Kd.R_lit (Kd.int .i64) _ 3 ?hg (N := 10) ?hd (xs := ([0, 10, 100, 2147483647, (-1), 2147483648] : List Int)) (inner := [.int .i64 0, .int .i64 10, .int .i64 100, .int .i64 2147483647, .int .i64 (-1), .int .i64 2147483648]) (ok := fun _ => True) (okp := fun _ => True) ?hr ?hp (fun _ hk => hk) trivial (Below.refl _ _) (Nat.le_refl _) (by simp) ?_; (case hd => rfl); (case hg => rfl); (case hr => first | (go_simp; done) | (go_simp; rfl)); (case hp => exact (Reps.one (show Kd.M (Kd.int .i64) _ _ _ 0 [.int .i64 0] from rfl) (Reps.one (show Kd.M (Kd.int .i64) _ _ _ 10 [.int .i64 10] from rfl) (Reps.one (show Kd.M (Kd.int .i64) _ _ _ 100 [.int .i64 100] from rfl) (Reps.one (show Kd.M (Kd.int .i64) _ _ _ 2147483647 [.int .i64 2147483647] from rfl) (Reps.one (show Kd.M (Kd.int .i64) _ _ _ (-1) [.int .i64 (-1)] from rfl) (Reps.one (show Kd.M (Kd.int .i64) _ _ _ 2147483648 [.int .i64 2147483648] from rfl) (Reps.none _ _)))))))); intro v478 w8 ho9 hb hg_ hnew_; clear hg_ hnew_; (first | rw [← Ny477.out] at ho9 | (simp only [Int.reduceToNat] at ho9; rw [← Ny477.out] at ho9)); have n0_ := As_ (Kd.R_below (rk_ HO474.out) hb); have n1_ := As_ (Kd.R_lower ho9 (below_size (zb2_ HB.out (IsS72.ge HI469.out) GE465.out))); have n2_ := As_ (blk_below (g := gb465) (o := .cells #[.int .i64 0, .int .i64 0, .slice none 0 0] 24 (0, 0)) (ak_ BK465.out) hb); have n3_ := As_ (IsS72.below (by repeat (first | (with_reducible first | exact HI469.out | apply IsS72.alloc | apply IsS72.drewN | apply IsS72.drew | apply IsS72.set_1 | apply IsS72.set_2 | refine IsS72.far ?_ NB469_465.out _) | exact HI469.out)) hb); have n4_ := As_ (below_step (zb2_ HB.out (IsS72.ge HI469.out) GE465.out) hb); clear HO474 BK465 HI469 HB; have HO474 := n0_; have HO479 := n1_; have BK465 := n2_; have HI469 := n3_; have HB := n4_; clear n0_ n1_ n2_ n3_ n4_ hb ho9; obtain ⟨Ao10, co10, eo10⟩ := Kd.R_slice HO479.out; subst eo10) | ((with_reducible refine gate_callee (f := 54) rfl ?_); refine goesL_ (some 11) rfl rfl Try.func54 (by kernel_rfl) rfl #[.pointer (some ⟨g469, 0, none⟩), .slice Ao10 y477.length co10] rfl tm_ ?_; (with_reducible refine (spec_l1Int.calls g469 t466 t475 t476 _ _ y477 t480 t481 t482 w _ ?side1 ?side2 ?side3 ?side4 ?side5 A4.out).mono ?_); (case side1 => repeat (first | (with_reducible first | exact HI469.out | apply IsS72.alloc | apply IsS72.drewN | apply IsS72.drew | apply IsS72.set_1 | apply IsS72.set_2 | refine IsS72.far ?_ NB469_465.out _) | exact HI469.out)); (case side2 => repeat (first | (with_reducible first | exact HB.out | apply bA_ | apply bN_ | apply bD_ | refine bS_ ?_ (IsS72.ge HI469.out) | refine bS_ ?_ GE465.out) | exact HB.out)); (case side3 => repeat (first | exact (Kd.R_reads' HO479.out).2.2 | (with_reducible first | apply cA_ | apply cN_ | apply cD_))); (case side4 => exact (Kd.R_reads' HO479.out).2.1); (case side5 => exact far_slice (IsS72.own_ne HI469.out HO479.out (by decide))); rintro e w11 ⟨rfl, hi, hb, hk⟩; refine ⟨_, rfl, ?_⟩; replace BK465 := As_ (KeepBut.blk hk (g' := gb465) (o := .cells #[.int .i64 0, .int .i64 0, .slice none 0 0] 24 (0, 0)) (ak_ BK465.out) NB465_469.out (by simp)); replace HO474 := As_ (Kd.R_mono (Kd.R_keep (IsS72.apart (show IsS72 w _ g469 t466 t475 t476 from by repeat (first | (with_reducible first | exact HI469.out | apply IsS72.alloc | apply IsS72.drewN | apply IsS72.drew | apply IsS72.set_1 | apply IsS72.set_2 | refine IsS72.far ?_ NB469_465.out _) | exact HI469.out)) (rk_ HO474.out) (by decide)) hk (fun _ h => h.2)) (fun _ h => h.1)); replace HO479 := As_ (Kd.R_mono (Kd.R_keep (IsS72.apart (show IsS72 w _ g469 t466 t475 t476 from by repeat (first | (with_reducible first | exact HI469.out | apply IsS72.alloc | apply IsS72.drewN | apply IsS72.drew | apply IsS72.set_1 | apply IsS72.set_2 | refine IsS72.far ?_ NB469_465.out _) | exact HI469.out)) (rk_ HO479.out) (by decide)) hk (fun _ h => h.2)) (fun _ h => h.1)); replace HB := As_ (hb); replace HI469 := As_ (hi); (try clear hb); (try clear hb2); (try clear hk); (try clear hi); have hnb12 := NB465_469.out; have hnc12 := NB469_465.out; obtain ⟨hcz13_0, hcz13_1, hcz13_2, hfz13_0, hfz13_1, hfz13_2⟩ := blk_all3 BK465.out; obtain ⟨Ao14, co14, eo14⟩ := Kd.R_slice HO474.out; subst eo14))
  refine bodyPost_ret (results_ct rfl _ _ gb465 24 #[.int .i64 t470, .int .i64 t471, .slice Ao14 t472.length co14] (0, 0) _ rfl (ap_ BK465.out) Try.underlying24 rfl (by kernel_rfl)) rfl ?_
  exact ⟨_, by first | rfl | (simp [errW_none, errW_some] <;> rfl) | (simp [*, errW_none, errW_some] <;> rfl), rt3_ HO474.out BK465.out, zb2_ HB.out (IsS72.ge HI469.out) GE465.out⟩

end Go.Proofs.Ytejnagdmfooemaa.QFnLanes
