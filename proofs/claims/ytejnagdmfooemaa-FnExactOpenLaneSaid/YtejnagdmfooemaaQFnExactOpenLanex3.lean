/- Contracts of functions of the translation, each with its pure function; printed by a program of this session (wip/pr.py) over the kit's print; no condition of its own. -/
import Derived.Test.YtejnagdmfooemaaQFnExactOpenLanex0
import Derived.Test.YtejnagdmfooemaaQFnExactOpenLanex2
namespace Go.Proofs.Ytejnagdmfooemaa.QFnExactOpenLane
open Go.RowKit Go.Proofs.YtejnagdmfooemaaW.PrintWords Go.Proofs.YtejnagdmfooemaaW.PrintLast Go.Proofs.YtejnagdmfooemaaW.PrintMore
attribute [local go_sem] max2_int min2_int max_two min_two max_three min_three max_four min_four   -- for this text's walks alone
set_option linter.unusedVariables false
set_option linter.unusedSimpArgs false

/-! ### spec_OpenLane: function 34 -/
def spec_OpenLane.l0 : Nat → Int → Int → Int → Int → List (S48) → Int → Int → List (S48) → Option (Int × Int × (List (S48)) × Bool)
  | 0, _, _, _, _, _, _, _, _ => none
  | k + 1, x1, x7, x174000, x174001, x174002, x181000, x181001, x181002 => if x7 < (x174002.length : Int) then (if 0 ≤ x7 then (if ((rd_T48 x174002 x7).f0) < x1 then (spec_OpenLane.l0 k x1 (wrap64 (x7 + 1)) x174000 x174001 x174002 x181000 x181001 x181002) else ((some (([] : List (S48)) : List (S48))).bind fun y182 => (if x7 ≤ (x174002.length : Int) then ((some (x174002.take (x7 : Int).toNat : List (S48))).bind fun y185 => (if y182.length + y185.length < 8796093022208 then ((some (y182 ++ y185 : List (S48))).bind fun y189 => ((some (([(⟨x1, x174001⟩ : S48)] : List (S48)) : List (S48))).bind fun y192 => (if y189.length + y192.length < 8796093022208 then ((some (y189 ++ y192 : List (S48))).bind fun y195 => ((some (x174002.drop (x7 : Int).toNat : List (S48))).bind fun y198 => (if y195.length + y198.length < 8796093022208 then ((spec_l10At.f k x174000 x174001 x174002 x1).bind fun t205 => ((spec_l10Ends.f k x174000 x174001 x174002 x181000 x181001 (y195 ++ y198) (decide (t205 < 0))).bind fun bt206 => (some (bt206.1, bt206.2.1, bt206.2.2.1, bt206.2.2.2)))) else (none)))) else (none)))) else (none))) else (none)))) else (none)) else ((some (([] : List (S48)) : List (S48))).bind fun y212 => (if 0 ≤ x7 then (if x7 ≤ (x174002.length : Int) then ((some (x174002.take (x7 : Int).toNat : List (S48))).bind fun y215 => (if y212.length + y215.length < 8796093022208 then ((some (y212 ++ y215 : List (S48))).bind fun y219 => ((some (([(⟨x1, x174001⟩ : S48)] : List (S48)) : List (S48))).bind fun y222 => (if y219.length + y222.length < 8796093022208 then ((some (y219 ++ y222 : List (S48))).bind fun y225 => ((some (x174002.drop (x7 : Int).toNat : List (S48))).bind fun y228 => (if y225.length + y228.length < 8796093022208 then ((spec_l10At.f k x174000 x174001 x174002 x1).bind fun t235 => ((spec_l10Ends.f k x174000 x174001 x174002 x181000 x181001 (y225 ++ y228) (decide (t235 < 0))).bind fun bt236 => (some (bt236.1, bt236.2.1, bt236.2.2.1, bt236.2.2.2)))) else (none)))) else (none)))) else (none))) else (none)) else (none)))
def spec_OpenLane.f (k : Nat) (a0_0 : Int) (a0_1 : Int) (l0_2 : List (S48)) (a1 : Int) : Option (Int × Int × (List (S48)) × Bool) := (spec_l10Copy.f a0_0 a0_1 l0_2).bind fun bt175 => (spec_OpenLane.l0 k a1 0 a0_0 a0_1 l0_2 bt175.1 bt175.2.1 bt175.2.2)
theorem spec_OpenLane.mono_l : ∀ k, (∀ y0 y1 y2 y3 y4 y5 y6 y7, LeO (spec_OpenLane.l0 k y0 y1 y2 y3 y4 y5 y6 y7) (spec_OpenLane.l0 (k + 1) y0 y1 y2 y3 y4 y5 y6 y7))
  | 0 => fun _ _ _ _ _ _ _ _ r h => by simp [spec_OpenLane.l0] at h
  | k + 1 => by
    have ih0 := spec_OpenLane.mono_l k
    · intro y0 y1 y2 y3 y4 y5 y6 y7
      unfold spec_OpenLane.l0
      repeat' first
      | (with_reducible exact ih0 _ _ _ _ _ _ _ _)
      | (with_reducible exact spec_l10At.mono _ _ _ _ _)
      | (with_reducible exact spec_l10Ends.mono _ _ _ _ _ _ _ _)
      | (with_reducible exact LeO.refl _)
      | (with_reducible exact LeO.none _)
      | (with_reducible refine LeO.ite ?_ ?_)
      | (with_reducible refine LeO.bind ?_ (fun _ => ?_))
      | exact ih0 _ _ _ _ _ _ _ _
      | exact spec_l10At.mono _ _ _ _ _
      | exact spec_l10Ends.mono _ _ _ _ _ _ _ _
      | exact LeO.none _
      | refine LeO.ite ?_ ?_
      | refine LeO.bind ?_ (fun _ => ?_)
theorem spec_OpenLane.mono : ∀ a0 a1 a2 a3 k, LeO (spec_OpenLane.f k a0 a1 a2 a3) (spec_OpenLane.f (k + 1) a0 a1 a2 a3) := by
  intro a0 a1 a2 a3 k
  have ih0 := spec_OpenLane.mono_l k
  unfold spec_OpenLane.f
  repeat' first
      | (with_reducible exact ih0 _ _ _ _ _ _ _ _)
      | (with_reducible exact spec_l10At.mono _ _ _ _ _)
      | (with_reducible exact spec_l10Ends.mono _ _ _ _ _ _ _ _)
      | (with_reducible exact LeO.refl _)
      | (with_reducible exact LeO.none _)
      | (with_reducible refine LeO.ite ?_ ?_)
      | (with_reducible refine LeO.bind ?_ (fun _ => ?_))
      | exact ih0 _ _ _ _ _ _ _ _
      | exact spec_l10At.mono _ _ _ _ _
      | exact spec_l10Ends.mono _ _ _ _ _ _ _ _
      | exact LeO.none _
      | refine LeO.ite ?_ ?_
      | refine LeO.bind ?_ (fun _ => ?_)
def spec_OpenLane.T5 : Bool × List (List Nat × List Nat) := (true, [([], []), ([], []), ([1], [1]), ([], []), ([2, 3], [2, 3]), ([0, 4], [0, 4]), ([], []), ([], []), ([7], [7]), ([6, 8], [6, 8]), ([9], [9]), ([5, 10, 5], [5, 10]), ([0, 1, 2, 3, 4, 5, 6, 7, 8, 9, 10, 11], []), ([12, 11, 11, 0, 1, 2, 3, 4, 5, 6, 7, 8, 9, 10, 11], [11, 12])])
def spec_OpenLane.B5 : List Nat := [0, 0, 2, 0, 14, 31, 0, 0, 128, 448, 960, 2047, 4095, 8191]
theorem spec_OpenLane.tab5 : rtab .any (opsOf Try.f34 5) = spec_OpenLane.T5 := by kernel_rfl
theorem spec_OpenLane.bits5 : waitsOk spec_OpenLane.T5.2 spec_OpenLane.B5 = true := by kernel_rfl
def spec_OpenLane.T6 : Bool × List (List Nat × List Nat) := (true, [([], []), ([0], [0]), ([], []), ([2], [2]), ([], []), ([3, 4], [3, 4]), ([1, 5], [1, 5]), ([0, 1, 2, 3, 4, 5, 6], []), ([7, 6, 6, 0, 1, 2, 3, 4, 5, 6], [6, 7])])
def spec_OpenLane.B6 : List Nat := [0, 1, 0, 4, 0, 28, 63, 127, 255]
theorem spec_OpenLane.tab6 : rtab .any (opsOf Try.f34 6) = spec_OpenLane.T6 := by kernel_rfl
theorem spec_OpenLane.bits6 : waitsOk spec_OpenLane.T6.2 spec_OpenLane.B6 = true := by kernel_rfl
def spec_OpenLane.T7 : Bool × List (List Nat × List Nat) := (true, [([], []), ([], []), ([], []), ([], []), ([2, 3], [2, 3]), ([4], [4]), ([0, 1, 5, 4], [0, 1, 5]), ([6], [6]), ([6], [6]), ([7, 6, 0, 1, 2, 3, 4, 5, 6, 7, 8], [7]), ([8, 9, 0, 1, 2, 3, 4, 5, 6, 7, 8, 9], [8])])
def spec_OpenLane.B7 : List Nat := [0, 0, 0, 0, 12, 28, 63, 127, 127, 511, 1023]
theorem spec_OpenLane.tab7 : rtab .any (opsOf Try.f34 7) = spec_OpenLane.T7 := by kernel_rfl
theorem spec_OpenLane.bits7 : waitsOk spec_OpenLane.T7.2 spec_OpenLane.B7 = true := by kernel_rfl
set_option maxHeartbeats 8000000 in
set_option maxRecDepth 100000 in
theorem spec_OpenLane.calls (k : Nat) (a0_0 : Int) (a0_1 : Int) (A0_2 : Option Addr) (c0_2 : Nat) (l0_2 : List (S48)) (a1 : Int) (r1 : Int) (r2 : Int) (r3 : List (S48)) (r4 : Bool) (w : World) (hr0_2 : Kd.C k48 w A0_2 l0_2.length l0_2) (hc0_2 : l0_2.length ≤ c0_2) (h : spec_OpenLane.f k a0_0 a0_1 l0_2 a1 = some (r1, r2, r3, r4)) :
    Calls Try.prog 34 #[.agg #[.int .i64 a0_0, .int .i64 a0_1, .slice A0_2 l0_2.length c0_2], .int .i64 a1] w fun e w' => ∃ v2_ : Value, e = .returned (.tuple #[.agg #[.int .i64 r1, .int .i64 r2, v2_], .bool r4]) ∧ Kd.R k48 48 w' w.heap.size (fun _ => True) v2_ r3 ∧ Below w.heap.size w w' := by
  have hu24 := Try.underlying24
  have hu48 := Try.underlying48
  have HR0_2 := Aside0.mk hr0_2
  have HC0_2 := Aside0.mk hc0_2
  clear hr0_2 hc0_2
  have HB := As_ (Below.refl w.heap.size w)
  have H : ((spec_l10Copy.f a0_0 a0_1 l0_2).bind fun bt175 => (spec_OpenLane.l0 k a1 0 a0_0 a0_1 l0_2 bt175.1 bt175.2.1 bt175.2.2)) = some (r1, r2, r3, r4) := h
  clear h
  replace H := Option.bind_eq_some_iff.mp H
  obtain ⟨⟨t175, t176, t177⟩, A30, H⟩ := H
  replace H : (spec_OpenLane.l0 k a1 0 a0_0 a0_1 l0_2 t175 t176 t177) = some (r1, r2, r3, r4) := H
  have A3 := Aside0.mk A30
  clear A30
  have H' := Aside0.mk H
  clear H
  go_enter Try.func34, Try.ntmps34
  go_wp2_with (first | ((with_reducible refine gate_dst (N := 2) rfl ?_); refine box_event ?hg (N := 2) ?hd (cs := #[.int .i64 a0_0, .int .i64 a0_1, .slice A0_2 l0_2.length c0_2]) (t := 24) ?hr ?_; (case hd => rfl); (case hg => rfl); (case hr => first | (go_simp; done) | (go_simp; rfl)); intro gb173 hg w4 hbox hb; have n0_ := As_ (below_step (by repeat (first | (with_reducible first | exact HB.out | apply bA_ | apply bN_ | apply bD_) | exact HB.out)) hb); have n1_ := As_ (hbox); have n2_ := As_ ((by rw [hg]; exact (below_size (by repeat (first | (with_reducible first | exact HB.out | apply bA_ | apply bN_ | apply bD_) | exact HB.out))) : w.heap.size ≤ gb173)); have n3_ := As_ ((by rw [hg]; exact (below_size (by repeat (first | (with_reducible first | exact HB.out | apply bA_ | apply bN_ | apply bD_) | exact HB.out))) : w.heap.size ≤ gb173)); clear HB; have HB := n0_; have BK173 := n1_; have GW173 := n2_; have GE173 := n3_; clear n0_ n1_ n2_ n3_ hb hbox hg) | ((with_reducible refine gate_dst (N := 4) rfl ?_); refine box_event ?hg (N := 4) ?hd (cs := #[.int .i64 0, .int .i64 0, .slice none 0 0]) (t := 24) ?hr ?_; (case hd => rfl); (case hg => rfl); (case hr => first | (go_simp; done) | (go_simp; rfl)); intro gb174 hg w5 hbox hb; have n0_ := As_ (blk_below (g := gb173) (o := .cells #[.int .i64 a0_0, .int .i64 a0_1, .slice A0_2 l0_2.length c0_2] 24 (0, 0)) (by (with_reducible repeat (first | apply kN_ | apply kD_ | apply kA_)); exact BK173.out) hb); have n1_ := As_ (below_step (by repeat (first | (with_reducible first | exact HB.out | apply bA_ | apply bN_ | apply bD_ | refine bS_ ?_ GE173.out) | exact HB.out)) hb); have n2_ := As_ (hbox); have n3_ := As_ ((by rw [hg]; exact (below_size (by repeat (first | (with_reducible first | exact HB.out | apply bA_ | apply bN_ | apply bD_ | refine bS_ ?_ GE173.out) | exact HB.out))) : w.heap.size ≤ gb174)); have n4_ := As_ ((by rw [hg]; exact (below_size (by repeat (first | (with_reducible first | exact HB.out | apply bA_ | apply bN_ | apply bD_ | refine bS_ ?_ GE173.out) | exact HB.out))) : w.heap.size ≤ gb174)); have n5_ := As_ ((by rw [hg]; exact Nat.ne_of_lt (blk_lt (g := gb173) (o := .cells #[.int .i64 a0_0, .int .i64 a0_1, .slice A0_2 l0_2.length c0_2] 24 (0, 0)) (by (with_reducible repeat (first | apply kN_ | apply kD_ | apply kA_)); exact BK173.out)) : gb173 ≠ gb174)); have n6_ := As_ ((by rw [hg]; exact Nat.ne_of_gt (blk_lt (g := gb173) (o := .cells #[.int .i64 a0_0, .int .i64 a0_1, .slice A0_2 l0_2.length c0_2] 24 (0, 0)) (by (with_reducible repeat (first | apply kN_ | apply kD_ | apply kA_)); exact BK173.out)) : gb174 ≠ gb173)); clear BK173 HB; have BK173 := n0_; have HB := n1_; have BK174 := n2_; have GW174 := n3_; have GE174 := n4_; have NB173_174 := n5_; have NB174_173 := n6_; clear n0_ n1_ n2_ n3_ n4_ n5_ n6_ hb hbox hg; have hnb6 := NB173_174.out; have hnc6 := NB174_173.out; obtain ⟨hcz7_0, hcz7_1, hcz7_2, hfz7_0, hfz7_1, hfz7_2⟩ := blk_all3 BK173.out) | ((with_reducible refine gate_callee (f := 47) rfl ?_); refine goesL_ (some 9) rfl rfl Try.func47 (by kernel_rfl) rfl #[.agg #[.int .i64 a0_0, .int .i64 a0_1, .slice A0_2 l0_2.length c0_2]] rfl (by (try simp only [List.map_toArray, List.map_cons, List.map_nil]); first | done | rfl | (simp only [List.length_drop, List.length_take]; rfl)) ?_; (with_reducible refine (spec_l10Copy.calls a0_0 a0_1 _ _ l0_2 t175 t176 t177 _ ?side1 ?side2 A3.out).mono ?_); (case side1 => repeat (first | exact (Kd.C_below HR0_2.out HB.out) | (with_reducible first | apply cA_ | apply cN_ | apply cD_))); (case side2 => exact HC0_2.out); rintro e w8 ⟨v178, rfl, ho0, hb⟩; refine ⟨_, rfl, ?_⟩; have HO179 := As_ (Kd.R_lower ho0 (below_size (by repeat (first | (with_reducible first | exact HB.out | apply bA_ | apply bN_ | apply bD_ | refine bS_ ?_ GE173.out | refine bS_ ?_ GE174.out) | exact HB.out)))); replace BK173 := As_ (blk_below (g := gb173) (o := .cells #[.int .i64 a0_0, .int .i64 a0_1, .slice A0_2 l0_2.length c0_2] 24 (0, 0)) (by (with_reducible repeat (first | apply kN_ | apply kD_ | apply kA_)); exact BK173.out) hb); replace BK174 := As_ (blk_below (g := gb174) (o := .cells #[.int .i64 0, .int .i64 0, .slice none 0 0] 24 (0, 0)) (by (with_reducible repeat (first | apply kN_ | apply kD_ | apply kA_)); exact BK174.out) hb); replace HB := As_ (below_step (by repeat (first | (with_reducible first | exact HB.out | apply bA_ | apply bN_ | apply bD_ | refine bS_ ?_ GE173.out | refine bS_ ?_ GE174.out) | exact HB.out)) hb); (try clear hb); (try clear hb2); (try clear hk); (try clear hi); (try clear ho0)) | ((with_reducible refine gate_dst (N := 6) rfl ?_); refine box_event ?hg (N := 6) ?hd (cs := #[.int .i64 0, .int .i64 0, .slice none 0 0]) (t := 24) ?hr ?_; (case hd => rfl); (case hg => rfl); (case hr => first | (go_simp; done) | (go_simp; rfl)); intro gb180 hg w9 hbox hb; have n0_ := As_ (Kd.R_below (by (with_reducible repeat (first | apply rA_ | apply rN_ | apply rD_)); exact HO179.out) hb); have n1_ := As_ (blk_below (g := gb173) (o := .cells #[.int .i64 a0_0, .int .i64 a0_1, .slice A0_2 l0_2.length c0_2] 24 (0, 0)) (by (with_reducible repeat (first | apply kN_ | apply kD_ | apply kA_)); exact BK173.out) hb); have n2_ := As_ (blk_below (g := gb174) (o := .cells #[.int .i64 0, .int .i64 0, .slice none 0 0] 24 (0, 0)) (by (with_reducible repeat (first | apply kN_ | apply kD_ | apply kA_)); exact BK174.out) hb); have n3_ := As_ (below_step (by repeat (first | (with_reducible first | exact HB.out | apply bA_ | apply bN_ | apply bD_ | refine bS_ ?_ GE173.out | refine bS_ ?_ GE174.out) | exact HB.out)) hb); have n4_ := As_ (hbox); have n5_ := As_ ((by rw [hg]; exact (below_size (by repeat (first | (with_reducible first | exact HB.out | apply bA_ | apply bN_ | apply bD_ | refine bS_ ?_ GE173.out | refine bS_ ?_ GE174.out) | exact HB.out))) : w.heap.size ≤ gb180)); have n6_ := As_ ((by rw [hg]; exact (below_size (by repeat (first | (with_reducible first | exact HB.out | apply bA_ | apply bN_ | apply bD_ | refine bS_ ?_ GE173.out | refine bS_ ?_ GE174.out) | exact HB.out))) : w.heap.size ≤ gb180)); have n7_ := As_ ((by rw [hg]; exact Nat.ne_of_lt (blk_lt (g := gb173) (o := .cells #[.int .i64 a0_0, .int .i64 a0_1, .slice A0_2 l0_2.length c0_2] 24 (0, 0)) (by (with_reducible repeat (first | apply kN_ | apply kD_ | apply kA_)); exact BK173.out)) : gb173 ≠ gb180)); have n8_ := As_ ((by rw [hg]; exact Nat.ne_of_gt (blk_lt (g := gb173) (o := .cells #[.int .i64 a0_0, .int .i64 a0_1, .slice A0_2 l0_2.length c0_2] 24 (0, 0)) (by (with_reducible repeat (first | apply kN_ | apply kD_ | apply kA_)); exact BK173.out)) : gb180 ≠ gb173)); have n9_ := As_ ((by rw [hg]; exact Nat.ne_of_lt (blk_lt (g := gb174) (o := .cells #[.int .i64 0, .int .i64 0, .slice none 0 0] 24 (0, 0)) (by (with_reducible repeat (first | apply kN_ | apply kD_ | apply kA_)); exact BK174.out)) : gb174 ≠ gb180)); have n10_ := As_ ((by rw [hg]; exact Nat.ne_of_gt (blk_lt (g := gb174) (o := .cells #[.int .i64 0, .int .i64 0, .slice none 0 0] 24 (0, 0)) (by (with_reducible repeat (first | apply kN_ | apply kD_ | apply kA_)); exact BK174.out)) : gb180 ≠ gb174)); clear HO179 BK173 BK174 HB; have HO179 := n0_; have BK173 := n1_; have BK174 := n2_; have HB := n3_; have BK180 := n4_; have GW180 := n5_; have GE180 := n6_; have NB173_180 := n7_; have NB180_173 := n8_; have NB174_180 := n9_; have NB180_174 := n10_; clear n0_ n1_ n2_ n3_ n4_ n5_ n6_ n7_ n8_ n9_ n10_ hb hbox hg; have hnb10 := NB180_173.out; have hnc10 := NB173_180.out; have hnb11 := NB180_174.out; have hnc11 := NB174_180.out; obtain ⟨hcz12_0, hcz12_1, hcz12_2, hfz12_0, hfz12_1, hfz12_2⟩ := blk_all3 BK180.out; obtain ⟨Ao13, co13, eo13⟩ := Kd.R_slice HO179.out; subst eo13))
  go_loopg [7] k (fun kq v7 w' => ∃ (x7_1 : Int), v7 = .int .i64 x7_1 ∧ Aside0 (spec_OpenLane.l0 kq a1 x7_1 a0_0 a0_1 l0_2 t175 t176 t177 = some (r1, r2, r3, r4)) ∧ Aside0 (kq ≤ k) ∧ Aside0 (Kd.R k48 48 w' w.heap.size (fun _ => True) (.slice Ao13 t177.length co13) t177) ∧ Aside0 (w'.heap[gb173]? = some (.cells #[.int .i64 a0_0, .int .i64 a0_1, (.slice A0_2 l0_2.length c0_2)] 24 (0, 0))) ∧ Aside0 (w'.heap[gb174]? = some (.cells #[.int .i64 0, .int .i64 0, (.slice none 0 0)] 24 (0, 0))) ∧ Aside0 (w'.heap[gb180]? = some (.cells #[.int .i64 t175, .int .i64 t176, (.slice Ao13 t177.length co13)] 24 (0, 0))) ∧ Aside0 (Below w.heap.size w w'))
  case atStart => exact ⟨(0), (by first | rfl | (simp; done) | (simp [*]; done)), H', ⟨Nat.le_refl _⟩, ⟨by (with_reducible repeat (first | apply rA_ | apply rN_ | apply rD_)); exact Kd.R_mono (Kd.R_far (p := ⟨gb180, 2, none⟩) (Kd.R_far (p := ⟨gb180, 1, none⟩) (Kd.R_far (p := ⟨gb180, 0, none⟩) (Kd.R_types HO179.out BK180.out (by decide)) (fun _ hk => hk.2) (.int .i64 t175)) (fun _ hk => hk.2) (.int .i64 t176)) (fun _ hk => hk.2) (.slice Ao13 t177.length co13)) (fun _ hk => trivial)⟩, ⟨by (with_reducible repeat (first | apply kN_ | apply kD_ | apply kA_)); refine blk_far ?_ NB173_180.out _; (with_reducible repeat (first | apply kN_ | apply kD_ | apply kA_)); refine blk_far ?_ NB173_180.out _; (with_reducible repeat (first | apply kN_ | apply kD_ | apply kA_)); refine blk_far ?_ NB173_180.out _; (with_reducible repeat (first | apply kN_ | apply kD_ | apply kA_)); exact BK173.out⟩, ⟨by (with_reducible repeat (first | apply kN_ | apply kD_ | apply kA_)); refine blk_far ?_ NB174_180.out _; (with_reducible repeat (first | apply kN_ | apply kD_ | apply kA_)); refine blk_far ?_ NB174_180.out _; (with_reducible repeat (first | apply kN_ | apply kD_ | apply kA_)); refine blk_far ?_ NB174_180.out _; (with_reducible repeat (first | apply kN_ | apply kD_ | apply kA_)); exact BK174.out⟩, ⟨by (with_reducible repeat (first | apply kN_ | apply kD_ | apply kA_)); refine blk_put (cs := #[.int .i64 t175, .int .i64 t176, .slice none 0 0]) ?_ 2 _ rfl; (with_reducible repeat (first | apply kN_ | apply kD_ | apply kA_)); refine blk_put (cs := #[.int .i64 t175, .int .i64 0, .slice none 0 0]) ?_ 1 _ rfl; (with_reducible repeat (first | apply kN_ | apply kD_ | apply kA_)); refine blk_put (cs := #[.int .i64 0, .int .i64 0, .slice none 0 0]) ?_ 0 _ rfl; (with_reducible repeat (first | apply kN_ | apply kD_ | apply kA_)); exact BK180.out⟩, ⟨by repeat (first | (with_reducible first | exact HB.out | apply bA_ | apply bN_ | apply bD_ | refine bS_ ?_ GE173.out | refine bS_ ?_ GE174.out | refine bS_ ?_ GE180.out) | exact HB.out)⟩⟩
  case round =>
    clear H'
    try clear c1
    try clear p2
    try clear c3
    try clear c4
    try clear c6
    try clear c10
    try clear c11
    try clear hcz12_0
    try clear hcz12_1
    try clear hcz12_2
    try clear hcz7_0
    try clear hcz7_1
    try clear hcz7_2
    try clear hfz12_0
    try clear hfz12_1
    try clear hfz12_2
    try clear hfz7_0
    try clear hfz7_1
    try clear hfz7_2
    obtain ⟨x7_1, rfl, HA, HK1, HO_181002, BK173, BK174, BK180, HB⟩ := hrel
    cases gk with
    | zero => exact absurd HA.out (by simp [spec_OpenLane.l0])
    | succ k1 =>
      have H := HA.out
      clear HA
      simp only [spec_OpenLane.l0] at H
      by_cases c14 : x7_1 < (l0_2.length : Int)
      · rw [if_pos c14] at H
        have c14b0 : decide (x7_1 < (l0_2.length : Int)) = true := decide_eq_true c14
        clear c14
        by_cases c15 : 0 ≤ x7_1
        · rw [if_pos c15] at H
          have c15b0 : decide (0 ≤ x7_1) = true := decide_eq_true c15
          clear c15
          by_cases c16 : ((rd_T48 l0_2 x7_1).f0) < a1
          · rw [if_pos c16] at H
            have c16b0 : decide (((rd_T48 l0_2 x7_1).f0) < a1) = true := decide_eq_true c16
            clear c16
            have H' := Aside0.mk H
            clear H
            have hnb17 := NB173_174.out
            have hnc17 := NB174_173.out
            have hnb18 := NB173_180.out
            have hnc18 := NB180_173.out
            obtain ⟨hcz19_0, hcz19_1, hcz19_2, hfz19_0, hfz19_1, hfz19_2⟩ := blk_all3 BK173.out
            have p181 : 0 ≤ (x7_1 : Int) := of_decide_eq_true (by first | (with_reducible assumption) | assumption)
            have q181 : x7_1 < (l0_2.length : Int) := of_decide_eq_true (by first | (with_reducible assumption) | assumption)
            obtain ⟨ad181, e181, hx181_0, hx181_1⟩ := at_T48 HR0_2.out x7_1 p181 q181
            cases e181
            replace hx181_0 := (HB.out.cell (World.block_lt_of_cell? w _ hx181_0)).trans hx181_0
            replace hx181_1 := (HB.out.cell (World.block_lt_of_cell? w _ hx181_1)).trans hx181_1
            replace p181 := eq_true p181
            replace q181 := eq_true q181
            go_wp2
            go_roundg k1
            case measure => have := HK1.out; omega
            case rel => exact ⟨(wrap64 (x7_1 + 1)), (by first | rfl | (simp; done) | (simp [*]; done)), H', ⟨by have := HK1.out; omega⟩, ⟨by (with_reducible repeat (first | apply rA_ | apply rN_ | apply rD_)); exact HO_181002.out⟩, ⟨by (with_reducible repeat (first | apply kN_ | apply kD_ | apply kA_)); exact BK173.out⟩, ⟨by (with_reducible repeat (first | apply kN_ | apply kD_ | apply kA_)); exact BK174.out⟩, ⟨by (with_reducible repeat (first | apply kN_ | apply kD_ | apply kA_)); exact BK180.out⟩, ⟨by repeat (first | (with_reducible first | exact HB.out | apply bA_ | apply bN_ | apply bD_ | refine bS_ ?_ GE173.out | refine bS_ ?_ GE174.out | refine bS_ ?_ GE180.out) | exact HB.out)⟩⟩
          · rw [if_neg c16] at H
            have c16b0 : decide (((rd_T48 l0_2 x7_1).f0) < a1) = false := decide_eq_false c16
            clear c16
            obtain ⟨y182, hy182⟩ : ∃ y_ : List (S48), y_ = (([] : List (S48))) := ⟨_, rfl⟩
            replace H : (if x7_1 ≤ (l0_2.length : Int) then ((some (l0_2.take (x7_1 : Int).toNat : List (S48))).bind fun y185 => (if y182.length + y185.length < 8796093022208 then ((some (y182 ++ y185 : List (S48))).bind fun y189 => ((some (([(⟨a1, a0_1⟩ : S48)] : List (S48)) : List (S48))).bind fun y192 => (if y189.length + y192.length < 8796093022208 then ((some (y189 ++ y192 : List (S48))).bind fun y195 => ((some (l0_2.drop (x7_1 : Int).toNat : List (S48))).bind fun y198 => (if y195.length + y198.length < 8796093022208 then ((spec_l10At.f k1 a0_0 a0_1 l0_2 a1).bind fun t205 => ((spec_l10Ends.f k1 a0_0 a0_1 l0_2 t175 t176 (y195 ++ y198) (decide (t205 < 0))).bind fun bt206 => (some (bt206.1, bt206.2.1, bt206.2.2.1, bt206.2.2.2)))) else (none)))) else (none)))) else (none))) else (none)) = some (r1, r2, r3, r4) := by first | (rw [hy182]; with_reducible exact H) | (have H2_ := (Option.bind_some _ _).symm.trans H; rw [hy182]; with_reducible exact H2_) | (have H2_ := (Option.bind_some _ _).symm.trans H; with_reducible exact H2_) | with_reducible exact H | (rw [hy182]; exact H) | exact H
            have Ny182 := Aside0.mk hy182
            clear hy182
            have c20b0 := eq_true (of_decide_eq_true (by first | (with_reducible assumption) | assumption) : 0 ≤ x7_1)
            by_cases c21 : x7_1 ≤ (l0_2.length : Int)
            · rw [if_pos c21] at H
              have c21b0 := eq_true c21
              have c21b1 : decide (x7_1 ≤ (l0_2.length : Int)) = true := decide_eq_true c21
              clear c21
              obtain ⟨y185, hy185⟩ : ∃ y_ : List (S48), y_ = (l0_2.take (x7_1 : Int).toNat) := ⟨_, rfl⟩
              replace H : (if y182.length + y185.length < 8796093022208 then ((some (y182 ++ y185 : List (S48))).bind fun y189 => ((some (([(⟨a1, a0_1⟩ : S48)] : List (S48)) : List (S48))).bind fun y192 => (if y189.length + y192.length < 8796093022208 then ((some (y189 ++ y192 : List (S48))).bind fun y195 => ((some (l0_2.drop (x7_1 : Int).toNat : List (S48))).bind fun y198 => (if y195.length + y198.length < 8796093022208 then ((spec_l10At.f k1 a0_0 a0_1 l0_2 a1).bind fun t205 => ((spec_l10Ends.f k1 a0_0 a0_1 l0_2 t175 t176 (y195 ++ y198) (decide (t205 < 0))).bind fun bt206 => (some (bt206.1, bt206.2.1, bt206.2.2.1, bt206.2.2.2)))) else (none)))) else (none)))) else (none)) = some (r1, r2, r3, r4) := by first | (rw [hy185]; with_reducible exact H) | (have H2_ := (Option.bind_some _ _).symm.trans H; rw [hy185]; with_reducible exact H2_) | (have H2_ := (Option.bind_some _ _).symm.trans H; with_reducible exact H2_) | with_reducible exact H | (rw [hy185]; exact H) | exact H
              have Ny185 := Aside0.mk hy185
              clear hy185
              by_cases c22 : y182.length + y185.length < 8796093022208
              · rw [if_pos c22] at H
                have LMc22 := Aside0.mk c22
                clear c22
                obtain ⟨y189, hy189⟩ : ∃ y_ : List (S48), y_ = (y182 ++ y185) := ⟨_, rfl⟩
                replace H : ((some (([(⟨a1, a0_1⟩ : S48)] : List (S48)) : List (S48))).bind fun y192 => (if y189.length + y192.length < 8796093022208 then ((some (y189 ++ y192 : List (S48))).bind fun y195 => ((some (l0_2.drop (x7_1 : Int).toNat : List (S48))).bind fun y198 => (if y195.length + y198.length < 8796093022208 then ((spec_l10At.f k1 a0_0 a0_1 l0_2 a1).bind fun t205 => ((spec_l10Ends.f k1 a0_0 a0_1 l0_2 t175 t176 (y195 ++ y198) (decide (t205 < 0))).bind fun bt206 => (some (bt206.1, bt206.2.1, bt206.2.2.1, bt206.2.2.2)))) else (none)))) else (none))) = some (r1, r2, r3, r4) := by first | (rw [hy189]; with_reducible exact H) | (have H2_ := (Option.bind_some _ _).symm.trans H; rw [hy189]; with_reducible exact H2_) | (have H2_ := (Option.bind_some _ _).symm.trans H; with_reducible exact H2_) | with_reducible exact H | (rw [hy189]; exact H) | exact H
                have Ny189 := Aside0.mk hy189
                clear hy189
                obtain ⟨y192, hy192⟩ : ∃ y_ : List (S48), y_ = (([(⟨a1, a0_1⟩ : S48)] : List (S48))) := ⟨_, rfl⟩
                replace H : (if y189.length + y192.length < 8796093022208 then ((some (y189 ++ y192 : List (S48))).bind fun y195 => ((some (l0_2.drop (x7_1 : Int).toNat : List (S48))).bind fun y198 => (if y195.length + y198.length < 8796093022208 then ((spec_l10At.f k1 a0_0 a0_1 l0_2 a1).bind fun t205 => ((spec_l10Ends.f k1 a0_0 a0_1 l0_2 t175 t176 (y195 ++ y198) (decide (t205 < 0))).bind fun bt206 => (some (bt206.1, bt206.2.1, bt206.2.2.1, bt206.2.2.2)))) else (none)))) else (none)) = some (r1, r2, r3, r4) := by first | (rw [hy192]; with_reducible exact H) | (have H2_ := (Option.bind_some _ _).symm.trans H; rw [hy192]; with_reducible exact H2_) | (have H2_ := (Option.bind_some _ _).symm.trans H; with_reducible exact H2_) | with_reducible exact H | (rw [hy192]; exact H) | exact H
                have Ny192 := Aside0.mk hy192
                clear hy192
                by_cases c23 : y189.length + y192.length < 8796093022208
                · rw [if_pos c23] at H
                  have LMc23 := Aside0.mk c23
                  clear c23
                  obtain ⟨y195, hy195⟩ : ∃ y_ : List (S48), y_ = (y189 ++ y192) := ⟨_, rfl⟩
                  replace H : ((some (l0_2.drop (x7_1 : Int).toNat : List (S48))).bind fun y198 => (if y195.length + y198.length < 8796093022208 then ((spec_l10At.f k1 a0_0 a0_1 l0_2 a1).bind fun t205 => ((spec_l10Ends.f k1 a0_0 a0_1 l0_2 t175 t176 (y195 ++ y198) (decide (t205 < 0))).bind fun bt206 => (some (bt206.1, bt206.2.1, bt206.2.2.1, bt206.2.2.2)))) else (none))) = some (r1, r2, r3, r4) := by first | (rw [hy195]; with_reducible exact H) | (have H2_ := (Option.bind_some _ _).symm.trans H; rw [hy195]; with_reducible exact H2_) | (have H2_ := (Option.bind_some _ _).symm.trans H; with_reducible exact H2_) | with_reducible exact H | (rw [hy195]; exact H) | exact H
                  have Ny195 := Aside0.mk hy195
                  clear hy195
                  have c24b0 := eq_true (of_decide_eq_true (by first | (with_reducible assumption) | assumption) : 0 ≤ x7_1)
                  have c25b0 := eq_true (of_decide_eq_true (by first | (with_reducible assumption) | assumption) : x7_1 ≤ (l0_2.length : Int))
                  obtain ⟨y198, hy198⟩ : ∃ y_ : List (S48), y_ = (l0_2.drop (x7_1 : Int).toNat) := ⟨_, rfl⟩
                  replace H : (if y195.length + y198.length < 8796093022208 then ((spec_l10At.f k1 a0_0 a0_1 l0_2 a1).bind fun t205 => ((spec_l10Ends.f k1 a0_0 a0_1 l0_2 t175 t176 (y195 ++ y198) (decide (t205 < 0))).bind fun bt206 => (some (bt206.1, bt206.2.1, bt206.2.2.1, bt206.2.2.2)))) else (none)) = some (r1, r2, r3, r4) := by first | (rw [hy198]; with_reducible exact H) | (have H2_ := (Option.bind_some _ _).symm.trans H; rw [hy198]; with_reducible exact H2_) | (have H2_ := (Option.bind_some _ _).symm.trans H; with_reducible exact H2_) | with_reducible exact H | (rw [hy198]; exact H) | exact H
                  have Ny198 := Aside0.mk hy198
                  clear hy198
                  by_cases c26 : y195.length + y198.length < 8796093022208
                  · rw [if_pos c26] at H
                    have LMc26 := Aside0.mk c26
                    clear c26
                    obtain ⟨y202, hy202⟩ : ∃ y_ : List (S48), y_ = (y195 ++ y198) := ⟨_, rfl⟩
                    replace H : ((spec_l10At.f k1 a0_0 a0_1 l0_2 a1).bind fun t205 => ((spec_l10Ends.f k1 a0_0 a0_1 l0_2 t175 t176 y202 (decide (t205 < 0))).bind fun bt206 => (some (bt206.1, bt206.2.1, bt206.2.2.1, bt206.2.2.2)))) = some (r1, r2, r3, r4) := by first | (rw [hy202]; with_reducible exact H) | (have H2_ := (Option.bind_some _ _).symm.trans H; rw [hy202]; with_reducible exact H2_) | (have H2_ := (Option.bind_some _ _).symm.trans H; with_reducible exact H2_) | with_reducible exact H | (rw [hy202]; exact H) | exact H
                    have Ny202 := Aside0.mk hy202
                    clear hy202
                    replace H := Option.bind_eq_some_iff.mp H
                    obtain ⟨t205, A270, H⟩ := H
                    replace H : ((spec_l10Ends.f k1 a0_0 a0_1 l0_2 t175 t176 y202 (decide (t205 < 0))).bind fun bt206 => (some (bt206.1, bt206.2.1, bt206.2.2.1, bt206.2.2.2))) = some (r1, r2, r3, r4) := H
                    have A27 := Aside0.mk A270
                    clear A270
                    replace H := Option.bind_eq_some_iff.mp H
                    obtain ⟨⟨t206, t207, t208, t211⟩, A280, H⟩ := H
                    replace H : (some (t206, t207, t208, t211)) = some (r1, r2, r3, r4) := H
                    have A28 := Aside0.mk A280
                    clear A280
                    simp only [Option.some.injEq, Prod.mk.injEq] at H
                    obtain ⟨rfl, rfl, rfl, rfl⟩ := H
                    have hnb29 := NB173_174.out
                    have hnc29 := NB174_173.out
                    have hnb30 := NB173_180.out
                    have hnc30 := NB180_173.out
                    obtain ⟨hcz31_0, hcz31_1, hcz31_2, hfz31_0, hfz31_1, hfz31_2⟩ := blk_all3 BK173.out
                    have p181 : 0 ≤ (x7_1 : Int) := of_decide_eq_true (by first | (with_reducible assumption) | assumption)
                    have q181 : x7_1 < (l0_2.length : Int) := of_decide_eq_true (by first | (with_reducible assumption) | assumption)
                    obtain ⟨ad181, e181, hx181_0, hx181_1⟩ := at_T48 HR0_2.out x7_1 p181 q181
                    cases e181
                    replace hx181_0 := (HB.out.cell (World.block_lt_of_cell? w _ hx181_0)).trans hx181_0
                    replace hx181_1 := (HB.out.cell (World.block_lt_of_cell? w _ hx181_1)).trans hx181_1
                    replace p181 := eq_true p181
                    replace q181 := eq_true q181
                    try go_wp2
                    replace HO_181002 := As_ (Kd.R_drew HO_181002.out)
                    replace BK173 := As_ (blk_drew BK173.out)
                    replace BK174 := As_ (blk_drew BK174.out)
                    replace BK180 := As_ (blk_drew BK180.out)
                    replace HB := As_ (below_drew1 HB.out)
                    have q33 : (x7_1 : Int) ≤ ((l0_2.length : Int) : Int) := of_decide_eq_true (by first | (with_reducible assumption) | assumption)
                    obtain ⟨i033, hi033, _, hsz33, _⟩ := info_parts info48
                    have hroom33 : l0_2.length ≤ c0_2 := HC0_2.out
                    have hC33 : Kd.C k48 _ (some ad181) l0_2.length l0_2 := HR0_2.out
                    have hcut33 := cut_to (P := Try.prog) 22 48 .i64 Try.underlying22 hi033 (some ad181) l0_2.length c0_2 x7_1 (of_decide_eq_true (by first | (with_reducible assumption) | assumption)) q33 hroom33
                    have hr33 := Kd.C_take (m := (x7_1 : Int).toNat) hC33 (by omega)
                    have hy33 : y185.length = (x7_1 : Int).toNat := (by rw [Ny185.out, List.length_take]; omega)
                    rw [← Ny185.out] at hr33
                    rw [← hy33] at hcut33
                    have HR188 := Aside0.mk hr33
                    have HC188 := As_ (show y185.length ≤ c0_2 from by omega)
                    clear hr33 hC33 hroom33 hi033 hsz33
                    have KY33 := Aside0.mk hy33
                    clear hy33
                    replace q33 := eq_true q33
                    refine start_ (n := 14) (S := fun w' => w'.cell? ⟨gb173, 0, none⟩ = some (.int .i64 a0_0) ∧ w'.cell? ⟨gb173, 1, none⟩ = some (.int .i64 a0_1) ∧ w'.cell? ⟨gb173, 2, none⟩ = some (.slice (some ad181) l0_2.length c0_2)) (ds := []) #[false, false, false, false, false, false, false, false, false, false, false, false, false, false] (by kernel_rfl) rfl rfl ⟨(blk_cell BK173.out 0).trans rfl, (blk_cell BK173.out 1).trans rfl, (blk_cell BK173.out 2).trans rfl⟩ (fun hHeld => ?_); refine with_tabW spec_OpenLane.tab5 spec_OpenLane.bits5 (fun HT_ HW_ => ?_)
                    generalize wr.drew = w32 at HO_181002 BK173 BK174 BK180 HB HR188 hHeld ⊢
                    refine pure_ (i := 1) (N := some 28) (v := ?_) (a' := ?_) #[false, true, false, false, false, false, false, false, false, false, false, false, false, false] rfl rfl (any_of HT_.out (by kernel_rfl)) (fun _ _ _ h => h) (Or.inl ⟨by rfl, ?_⟩) ?_ ?_
                    rotate_left
                    · intro w'
                      go_simp
                      with_reducible rfl
                    rotate_left
                    · simp only [Act.put, List.setIfInBounds_toArray, List.set_cons_zero, List.set_cons_succ, i64_w, i32_w]
                      rfl
                    refine pure_ (i := 3) (N := some 30) (v := ?_) (a' := ?_) #[false, true, false, true, false, false, false, false, false, false, false, false, false, false] rfl rfl (any_of HT_.out (by kernel_rfl)) (fun _ _ _ h => h) (Or.inl ⟨by rfl, ?_⟩) ?_ ?_
                    rotate_left
                    · intro w'
                      go_simp
                      with_reducible rfl
                    rotate_left
                    · simp only [Act.put, List.setIfInBounds_toArray, List.set_cons_zero, List.set_cons_succ, i64_w, i32_w]
                      rfl
                    refine pure_ (i := 6) (N := some 33) (v := ?_) (a' := ?_) #[false, true, false, true, false, false, true, false, false, false, false, false, false, false] rfl rfl (any_of HT_.out (by kernel_rfl)) (fun _ _ _ h => h) (Or.inl ⟨by rfl, ?_⟩) ?_ ?_
                    rotate_left
                    · intro w'
                      go_simp
                      with_reducible rfl
                    rotate_left
                    · simp only [Act.put, List.setIfInBounds_toArray, List.set_cons_zero, List.set_cons_succ, i64_w, i32_w]
                      rfl
                    refine pure_ (i := 7) (N := some 34) (v := ?_) (a' := ?_) #[false, true, false, true, false, false, true, true, false, false, false, false, false, false] rfl rfl (any_of HT_.out (by kernel_rfl)) (fun _ _ _ h => h) (Or.inl ⟨by rfl, ?_⟩) ?_ ?_
                    rotate_left
                    · intro w'
                      go_simp
                      with_reducible rfl
                    rotate_left
                    · simp only [Act.put, List.setIfInBounds_toArray, List.set_cons_zero, List.set_cons_succ, i64_w, i32_w]
                      rfl
                    refine take_ (i := 2) (N := some 29) (v := ?_) (a' := ?_) #[false, true, true, true, false, false, true, true, false, false, false, false, false, false] rfl rfl (take_ofW HT_.out HW_.out (by kernel_rfl)) (fun _ _ _ h => h) (Or.inl ⟨by rfl, ?_⟩) hHeld ?_ ?_
                    rotate_left
                    · rintro w' ⟨s0, s1, s2⟩
                      go_simp
                      with_reducible rfl
                    rotate_left
                    · simp only [Act.put, List.setIfInBounds_toArray, List.set_cons_zero, List.set_cons_succ, i64_w, i32_w]
                      rfl
                    refine pure_ (i := 4) (N := some 31) (v := ?_) (a' := ?_) #[false, true, true, true, true, false, true, true, false, false, false, false, false, false] rfl rfl (any_of HT_.out (by kernel_rfl)) (fun _ _ _ h => h) (Or.inl ⟨by rfl, ?_⟩) ?_ ?_
                    rotate_left
                    · intro w'
                      go_simp
                      with_reducible rfl
                    rotate_left
                    · simp only [Act.put, List.setIfInBounds_toArray, List.set_cons_zero, List.set_cons_succ, i64_w, i32_w]
                      rfl
                    refine take_ (i := 8) (N := some 35) (v := ?_) (a' := ?_) #[false, true, true, true, true, false, true, true, true, false, false, false, false, false] rfl rfl (take_ofW HT_.out HW_.out (by kernel_rfl)) (fun _ _ _ h => h) (Or.inl ⟨by rfl, ?_⟩) hHeld ?_ ?_
                    rotate_left
                    · rintro w' ⟨s0, s1, s2⟩
                      go_simp
                      with_reducible rfl
                    rotate_left
                    · simp only [Act.put, List.setIfInBounds_toArray, List.set_cons_zero, List.set_cons_succ, i64_w, i32_w]
                      rfl
                    refine pure_ (i := 9) (N := some 36) (v := ?_) (a' := ?_) #[false, true, true, true, true, false, true, true, true, true, false, false, false, false] rfl rfl (any_of HT_.out (by kernel_rfl)) (fun _ _ _ h => h) (Or.inl ⟨by rfl, ?_⟩) ?_ ?_
                    rotate_left
                    · intro w'
                      go_simp
                      with_reducible rfl
                    rotate_left
                    · simp only [Act.put, List.setIfInBounds_toArray, List.set_cons_zero, List.set_cons_succ, i64_w, i32_w]
                      rfl
                    refine join_ (σ := Value × Value × Value) 3 #[true, true, true, true, true, true, true, true, true, true, true, false, false, false] (fun s_ => [(27, s_.1), (32, s_.2.1), (37, s_.2.2)]) (fun s_ w' => (w'.cell? ⟨gb173, 0, none⟩ = some (.int .i64 a0_0) ∧ w'.cell? ⟨gb173, 1, none⟩ = some (.int .i64 a0_1) ∧ w'.cell? ⟨gb173, 2, none⟩ = some (.slice (some ad181) l0_2.length c0_2)) ∧ (Kd.R k48 48 w' w.heap.size (fun k_ => some k_ ≠ (s_.2.2 : Value).ownBlock ∧ some k_ ≠ (.slice Ao13 t177.length co13 : Value).ownBlock) s_.2.1 y189) ∧ (Kd.R k48 48 w' w.heap.size (fun k_ => some k_ ≠ (s_.2.1 : Value).ownBlock ∧ some k_ ≠ (.slice Ao13 t177.length co13 : Value).ownBlock) s_.2.2 y192) ∧ (Kd.R k48 48 w' w.heap.size (fun k_ => some k_ ≠ (s_.2.1 : Value).ownBlock ∧ some k_ ≠ (s_.2.2 : Value).ownBlock) (.slice Ao13 t177.length co13) t177) ∧ (w'.heap[gb173]? = some (.cells #[.int .i64 a0_0, .int .i64 a0_1, .slice (some ad181) l0_2.length c0_2] 24 (0, 0))) ∧ (w'.heap[gb174]? = some (.cells #[.int .i64 0, .int .i64 0, .slice none 0 0] 24 (0, 0))) ∧ (w'.heap[gb180]? = some (.cells #[.int .i64 t175, .int .i64 t176, .slice Ao13 t177.length co13] 24 (0, 0))) ∧ (Below w.heap.size w w')) ?_ ?_
                    rotate_left
                    · intro hCont
                      refine two_ (i := 0) (j := 10) (Ni := some 27) (Nj := some 37) #[true, true, true, true, true, false, true, true, true, true, false, false, false, false] #[false, true, true, true, true, false, true, true, true, true, true, false, false, false] rfl rfl rfl rfl (two_of HT_.out (by kernel_rfl)) (by decide) (by decide) (fun K hK => ?_) (fun K hK => ?_)
                      · skip
                        refine Kd.R_lit_step k48 _ 48 ?hg (N := 27) ?hd (xs := ([] : List (S48))) (inner := []) (ok := fun _ => True) (okp := fun _ => True) ?hr ?hp (fun _ hk => hk) trivial (Below.refl _ _) (Nat.le_refl _) (by simp) ?_; (case hd => rfl); (case hg => rfl); (case hr => first | (go_simp; done) | (go_simp; rfl)); (case hp => exact (Reps.none _ _))
                        intro v183 w34 ho35 hb hg_ hnew_
                        clear hg_ hnew_
                        (first | rw [← Ny182.out] at ho35 | (simp only [Int.reduceToNat] at ho35; rw [← Ny182.out] at ho35))
                        have n0_ := As_ (Kd.R_elder' (by (with_reducible repeat (first | apply rA_ | apply rN_ | apply rD_)); exact HO_181002.out) (Kd.R_base ho35) hb)
                        have n1_ := As_ (Kd.R_lower (Kd.R_new' ho35 (Kd.R_lt (by (with_reducible repeat (first | apply rA_ | apply rN_ | apply rD_)); exact HO_181002.out))) (below_size (by repeat (first | (with_reducible first | exact HB.out | apply bA_ | apply bN_ | apply bD_ | refine bS_ ?_ GE173.out | refine bS_ ?_ GE174.out | refine bS_ ?_ GE180.out) | exact HB.out))))
                        have n2_ := As_ (blk_below (g := gb173) (o := .cells #[.int .i64 a0_0, .int .i64 a0_1, .slice (some ad181) l0_2.length c0_2] 24 (0, 0)) (by (with_reducible repeat (first | apply kN_ | apply kD_ | apply kA_)); exact BK173.out) hb)
                        have n3_ := As_ (blk_below (g := gb174) (o := .cells #[.int .i64 0, .int .i64 0, .slice none 0 0] 24 (0, 0)) (by (with_reducible repeat (first | apply kN_ | apply kD_ | apply kA_)); exact BK174.out) hb)
                        have n4_ := As_ (blk_below (g := gb180) (o := .cells #[.int .i64 t175, .int .i64 t176, .slice Ao13 t177.length co13] 24 (0, 0)) (by (with_reducible repeat (first | apply kN_ | apply kD_ | apply kA_)); exact BK180.out) hb)
                        have n5_ := As_ (below_step (by repeat (first | (with_reducible first | exact HB.out | apply bA_ | apply bN_ | apply bD_ | refine bS_ ?_ GE173.out | refine bS_ ?_ GE174.out | refine bS_ ?_ GE180.out) | exact HB.out)) hb)
                        clear HO_181002 BK173 BK174 BK180 HB
                        have HO_181002 := n0_
                        have HO184 := n1_
                        have BK173 := n2_
                        have BK174 := n3_
                        have BK180 := n4_
                        have HB := n5_
                        clear n0_ n1_ n2_ n3_ n4_ n5_ hb ho35
                        refine hK.out _ _ ⟨(blk_cell BK173.out 0).trans rfl, (blk_cell BK173.out 1).trans rfl, (blk_cell BK173.out 2).trans rfl⟩ (fun hHeld => ?_)
                        clear hK K
                        refine norm_ (a' := ?_) ?_ ?_
                        rotate_left
                        · show Act.put _ (some 27) _ = _
                          simp only [Act.put, List.setIfInBounds_toArray, List.set_cons_zero, List.set_cons_succ, i64_w, i32_w]
                          rfl
                        refine two_ (i := 5) (j := 10) (Ni := some 32) (Nj := some 37) #[true, true, true, true, true, true, true, true, true, true, false, false, false, false] #[true, true, true, true, true, false, true, true, true, true, true, false, false, false] rfl rfl rfl rfl (two_of HT_.out (by kernel_rfl)) (by decide) (by decide) (fun K hK => ?_) (fun K hK => ?_)
                        · skip
                          refine Kd.R_append_rows_step k48 (w0 := w) w.heap.size (by rfl) (.tmp 27) (.tmp 31) 22 48 (.agg #[(.int .i64 0), (.int .i64 0)]) 16 rfl Try.underlying22 info48 rfl (by decide) (by omega) v183 y182 y185 _ _ _ (fun k_ => some k_ ≠ (.slice Ao13 t177.length co13 : Value).ownBlock) (fun _ => False) rfl rfl ?aO ?aR (fun _ _ h => h) (fun _ h => h.elim) ?aF ?aB ?aS ?aL ?_
                          (case aR => repeat (first | exact (Kd.C_below HR188.out HB.out) | (with_reducible first | apply cA_ | apply cN_ | apply cD_)))
                          (case aB => exact (by repeat (first | (with_reducible first | exact HB.out | apply bA_ | apply bN_ | apply bD_ | refine bS_ ?_ GE173.out | refine bS_ ?_ GE174.out | refine bS_ ?_ GE180.out) | exact HB.out)))
                          (case aF => exact (fun k_ hk => Kd.fresh' (Kd.R_lt (by (with_reducible repeat (first | apply rA_ | apply rN_ | apply rD_)); exact HO_181002.out)) k_ hk))
                          (case aO => exact (by (with_reducible repeat (first | apply rA_ | apply rN_ | apply rD_)); exact Kd.R_mono HO184.out (fun _ hk => hk.2)))
                          (case aS => exact (below_size (by repeat (first | (with_reducible first | exact HB.out | apply bA_ | apply bN_ | apply bD_ | refine bS_ ?_ GE173.out | refine bS_ ?_ GE174.out | refine bS_ ?_ GE180.out) | exact HB.out))))
                          (case aL => have := LMc22.out; omega)
                          intro v190 w36 ho hb hg hat
                          rw [← Ny189.out] at ho
                          have n0_ := As_ (Kd.R_after (ok := (fun _ => True)) (by (with_reducible repeat (first | apply rA_ | apply rN_ | apply rD_)); exact HO_181002.out) hg hat)
                          have n1_ := As_ (blk_grown (g := gb173) (o := .cells #[.int .i64 a0_0, .int .i64 a0_1, .slice (some ad181) l0_2.length c0_2] 24 (0, 0)) (by (with_reducible repeat (first | apply kN_ | apply kD_ | apply kA_)); exact BK173.out) hg (Kd.R_ne HO184.out BK173.out (by decide)))
                          have n2_ := As_ (blk_grown (g := gb174) (o := .cells #[.int .i64 0, .int .i64 0, .slice none 0 0] 24 (0, 0)) (by (with_reducible repeat (first | apply kN_ | apply kD_ | apply kA_)); exact BK174.out) hg (Kd.R_ne HO184.out BK174.out (by decide)))
                          have n3_ := As_ (blk_grown (g := gb180) (o := .cells #[.int .i64 t175, .int .i64 t176, .slice Ao13 t177.length co13] 24 (0, 0)) (by (with_reducible repeat (first | apply kN_ | apply kD_ | apply kA_)); exact BK180.out) hg (Kd.R_ne HO184.out BK180.out (by decide)))
                          have n4_ := As_ (hb)
                          have n5_ := As_ (ho)
                          clear HO_181002 BK173 BK174 BK180 HB HO184
                          have HO_181002 := n0_
                          have BK173 := n1_
                          have BK174 := n2_
                          have BK180 := n3_
                          have HB := n4_
                          have HO191 := n5_
                          clear n0_ n1_ n2_ n3_ n4_ n5_ ho hb hg hat
                          refine hK.out _ _ ⟨(blk_cell BK173.out 0).trans rfl, (blk_cell BK173.out 1).trans rfl, (blk_cell BK173.out 2).trans rfl⟩ (fun hHeld => ?_)
                          clear hK K
                          refine norm_ (a' := ?_) ?_ ?_
                          rotate_left
                          · show Act.put _ (some 32) _ = _
                            simp only [Act.put, List.setIfInBounds_toArray, List.set_cons_zero, List.set_cons_succ, i64_w, i32_w]
                            rfl
                          refine one_ (i := 10) (N := some 37) #[true, true, true, true, true, true, true, true, true, true, true, false, false, false] rfl rfl (one_of HT_.out (by kernel_rfl)) (by decide) (fun K hK => ?_)
                          refine Kd.R_lit_step k48 _ 48 ?hg (N := 37) ?hd (xs := ([(⟨a1, a0_1⟩ : S48)] : List (S48))) (inner := [.int .i64 a1, .int .i64 a0_1]) (ok := fun _ => True) (okp := fun _ => True) ?hr ?hp (fun _ hk => hk) trivial (Below.refl _ _) (Nat.le_refl _) (by simp) ?_; (case hd => rfl); (case hg => rfl); (case hr => first | (go_simp; done) | (go_simp; rfl)); (case hp => exact (Reps.c2 (show Kd.M k48 _ _ _ (⟨a1, a0_1⟩ : S48) [.int .i64 a1, .int .i64 a0_1] from (k48_mkM _ _ _ (⟨a1, a0_1⟩ : S48) )) (Reps.none _ _)))
                          intro v193 w37 ho38 hb hg_ hnew_
                          clear hg_ hnew_
                          (first | rw [← Ny192.out] at ho38 | (simp only [Int.reduceToNat] at ho38; rw [← Ny192.out] at ho38))
                          have n0_ := As_ (Kd.R_elder' (by (with_reducible repeat (first | apply rA_ | apply rN_ | apply rD_)); exact HO_181002.out) (Kd.R_base ho38) hb)
                          have n1_ := As_ (Kd.R_elder' (by (with_reducible repeat (first | apply rA_ | apply rN_ | apply rD_)); exact HO191.out) (Kd.R_base ho38) hb)
                          have n2_ := As_ (Kd.R_lower (Kd.R_new' (Kd.R_new' ho38 (Kd.R_lt (by (with_reducible repeat (first | apply rA_ | apply rN_ | apply rD_)); exact HO_181002.out))) (Kd.R_lt (by (with_reducible repeat (first | apply rA_ | apply rN_ | apply rD_)); exact HO191.out))) (below_size (by repeat (first | (with_reducible first | exact HB.out | apply bA_ | apply bN_ | apply bD_ | refine bS_ ?_ GE173.out | refine bS_ ?_ GE174.out | refine bS_ ?_ GE180.out) | exact HB.out))))
                          have n3_ := As_ (blk_below (g := gb173) (o := .cells #[.int .i64 a0_0, .int .i64 a0_1, .slice (some ad181) l0_2.length c0_2] 24 (0, 0)) (by (with_reducible repeat (first | apply kN_ | apply kD_ | apply kA_)); exact BK173.out) hb)
                          have n4_ := As_ (blk_below (g := gb174) (o := .cells #[.int .i64 0, .int .i64 0, .slice none 0 0] 24 (0, 0)) (by (with_reducible repeat (first | apply kN_ | apply kD_ | apply kA_)); exact BK174.out) hb)
                          have n5_ := As_ (blk_below (g := gb180) (o := .cells #[.int .i64 t175, .int .i64 t176, .slice Ao13 t177.length co13] 24 (0, 0)) (by (with_reducible repeat (first | apply kN_ | apply kD_ | apply kA_)); exact BK180.out) hb)
                          have n6_ := As_ (below_step (by repeat (first | (with_reducible first | exact HB.out | apply bA_ | apply bN_ | apply bD_ | refine bS_ ?_ GE173.out | refine bS_ ?_ GE174.out | refine bS_ ?_ GE180.out) | exact HB.out)) hb)
                          clear HO_181002 HO191 BK173 BK174 BK180 HB
                          have HO_181002 := n0_
                          have HO191 := n1_
                          have HO194 := n2_
                          have BK173 := n3_
                          have BK174 := n4_
                          have BK180 := n5_
                          have HB := n6_
                          clear n0_ n1_ n2_ n3_ n4_ n5_ n6_ hb ho38
                          refine hK.out _ _ ⟨(blk_cell BK173.out 0).trans rfl, (blk_cell BK173.out 1).trans rfl, (blk_cell BK173.out 2).trans rfl⟩ (fun hHeld => ?_)
                          clear hK K
                          refine norm_ (a' := ?_) ?_ ?_
                          rotate_left
                          · show Act.put _ (some 37) _ = _
                            simp only [Act.put, List.setIfInBounds_toArray, List.set_cons_zero, List.set_cons_succ, i64_w, i32_w]
                            rfl
                          exact norm_ (by simp only [putAll, Act.put, List.setIfInBounds_toArray, List.set_cons_zero, List.set_cons_succ]) (hCont (v183, v190, v193) _ ⟨hHeld, (by (with_reducible repeat (first | apply rA_ | apply rN_ | apply rD_)); exact Kd.R_mono HO191.out (fun _ hk => ⟨hk.2, hk.1⟩)), (by (with_reducible repeat (first | apply rA_ | apply rN_ | apply rD_)); exact Kd.R_mono HO194.out (fun _ hk => ⟨hk.2, hk.1.2⟩)), (by (with_reducible repeat (first | apply rA_ | apply rN_ | apply rD_)); exact Kd.R_mono HO_181002.out (fun _ hk => ⟨hk.1.2, hk.2⟩)), (by (with_reducible repeat (first | apply kN_ | apply kD_ | apply kA_)); exact BK173.out), (by (with_reducible repeat (first | apply kN_ | apply kD_ | apply kA_)); exact BK174.out), (by (with_reducible repeat (first | apply kN_ | apply kD_ | apply kA_)); exact BK180.out), (by repeat (first | (with_reducible first | exact HB.out | apply bA_ | apply bN_ | apply bD_ | refine bS_ ?_ GE173.out | refine bS_ ?_ GE174.out | refine bS_ ?_ GE180.out) | exact HB.out))⟩)
                        · skip
                          refine Kd.R_lit_step k48 _ 48 ?hg (N := 37) ?hd (xs := ([(⟨a1, a0_1⟩ : S48)] : List (S48))) (inner := [.int .i64 a1, .int .i64 a0_1]) (ok := fun _ => True) (okp := fun _ => True) ?hr ?hp (fun _ hk => hk) trivial (Below.refl _ _) (Nat.le_refl _) (by simp) ?_; (case hd => rfl); (case hg => rfl); (case hr => first | (go_simp; done) | (go_simp; rfl)); (case hp => exact (Reps.c2 (show Kd.M k48 _ _ _ (⟨a1, a0_1⟩ : S48) [.int .i64 a1, .int .i64 a0_1] from (k48_mkM _ _ _ (⟨a1, a0_1⟩ : S48) )) (Reps.none _ _)))
                          intro v193 w36 ho37 hb hg_ hnew_
                          clear hg_ hnew_
                          (first | rw [← Ny192.out] at ho37 | (simp only [Int.reduceToNat] at ho37; rw [← Ny192.out] at ho37))
                          have n0_ := As_ (Kd.R_elder' (by (with_reducible repeat (first | apply rA_ | apply rN_ | apply rD_)); exact HO_181002.out) (Kd.R_base ho37) hb)
                          have n1_ := As_ (Kd.R_elder' (by (with_reducible repeat (first | apply rA_ | apply rN_ | apply rD_)); exact HO184.out) (Kd.R_base ho37) hb)
                          have n2_ := As_ (Kd.R_lower (Kd.R_new' (Kd.R_new' ho37 (Kd.R_lt (by (with_reducible repeat (first | apply rA_ | apply rN_ | apply rD_)); exact HO_181002.out))) (Kd.R_lt (by (with_reducible repeat (first | apply rA_ | apply rN_ | apply rD_)); exact HO184.out))) (below_size (by repeat (first | (with_reducible first | exact HB.out | apply bA_ | apply bN_ | apply bD_ | refine bS_ ?_ GE173.out | refine bS_ ?_ GE174.out | refine bS_ ?_ GE180.out) | exact HB.out))))
                          have n3_ := As_ (blk_below (g := gb173) (o := .cells #[.int .i64 a0_0, .int .i64 a0_1, .slice (some ad181) l0_2.length c0_2] 24 (0, 0)) (by (with_reducible repeat (first | apply kN_ | apply kD_ | apply kA_)); exact BK173.out) hb)
                          have n4_ := As_ (blk_below (g := gb174) (o := .cells #[.int .i64 0, .int .i64 0, .slice none 0 0] 24 (0, 0)) (by (with_reducible repeat (first | apply kN_ | apply kD_ | apply kA_)); exact BK174.out) hb)
                          have n5_ := As_ (blk_below (g := gb180) (o := .cells #[.int .i64 t175, .int .i64 t176, .slice Ao13 t177.length co13] 24 (0, 0)) (by (with_reducible repeat (first | apply kN_ | apply kD_ | apply kA_)); exact BK180.out) hb)
                          have n6_ := As_ (below_step (by repeat (first | (with_reducible first | exact HB.out | apply bA_ | apply bN_ | apply bD_ | refine bS_ ?_ GE173.out | refine bS_ ?_ GE174.out | refine bS_ ?_ GE180.out) | exact HB.out)) hb)
                          clear HO_181002 HO184 BK173 BK174 BK180 HB
                          have HO_181002 := n0_
                          have HO184 := n1_
                          have HO194 := n2_
                          have BK173 := n3_
                          have BK174 := n4_
                          have BK180 := n5_
                          have HB := n6_
                          clear n0_ n1_ n2_ n3_ n4_ n5_ n6_ hb ho37
                          refine hK.out _ _ ⟨(blk_cell BK173.out 0).trans rfl, (blk_cell BK173.out 1).trans rfl, (blk_cell BK173.out 2).trans rfl⟩ (fun hHeld => ?_)
                          clear hK K
                          refine norm_ (a' := ?_) ?_ ?_
                          rotate_left
                          · show Act.put _ (some 37) _ = _
                            simp only [Act.put, List.setIfInBounds_toArray, List.set_cons_zero, List.set_cons_succ, i64_w, i32_w]
                            rfl
                          refine one_ (i := 5) (N := some 32) #[true, true, true, true, true, true, true, true, true, true, true, false, false, false] rfl rfl (one_of HT_.out (by kernel_rfl)) (by decide) (fun K hK => ?_)
                          refine Kd.R_append_rows_step k48 (w0 := w) w.heap.size (by rfl) (.tmp 27) (.tmp 31) 22 48 (.agg #[(.int .i64 0), (.int .i64 0)]) 16 rfl Try.underlying22 info48 rfl (by decide) (by omega) v183 y182 y185 _ _ _ (fun k_ => some k_ ≠ (.slice Ao13 t177.length co13 : Value).ownBlock ∧ some k_ ≠ (v193 : Value).ownBlock) (fun _ => False) rfl rfl ?aO ?aR (fun _ _ h => h) (fun _ h => h.elim) ?aF ?aB ?aS ?aL ?_
                          (case aR => repeat (first | exact (Kd.C_below HR188.out HB.out) | (with_reducible first | apply cA_ | apply cN_ | apply cD_)))
                          (case aB => exact (by repeat (first | (with_reducible first | exact HB.out | apply bA_ | apply bN_ | apply bD_ | refine bS_ ?_ GE173.out | refine bS_ ?_ GE174.out | refine bS_ ?_ GE180.out) | exact HB.out)))
                          (case aF => exact (fun k_ hk => ⟨Kd.fresh' (Kd.R_lt (by (with_reducible repeat (first | apply rA_ | apply rN_ | apply rD_)); exact HO_181002.out)) k_ hk, Kd.fresh' (Kd.R_lt (by (with_reducible repeat (first | apply rA_ | apply rN_ | apply rD_)); exact HO194.out)) k_ hk⟩))
                          (case aO => exact (by (with_reducible repeat (first | apply rA_ | apply rN_ | apply rD_)); exact Kd.R_mono HO184.out (fun _ hk => ⟨hk.1.2, hk.2⟩)))
                          (case aS => exact (below_size (by repeat (first | (with_reducible first | exact HB.out | apply bA_ | apply bN_ | apply bD_ | refine bS_ ?_ GE173.out | refine bS_ ?_ GE174.out | refine bS_ ?_ GE180.out) | exact HB.out))))
                          (case aL => have := LMc22.out; omega)
                          intro v190 w38 ho hb hg hat
                          rw [← Ny189.out] at ho
                          have n0_ := As_ (Kd.R_after (ok := (fun k_ => some k_ ≠ (v193 : Value).ownBlock)) (by (with_reducible repeat (first | apply rA_ | apply rN_ | apply rD_)); exact Kd.R_mono HO_181002.out (fun _ hk => ⟨hk.2, hk.1.2⟩)) hg hat)
                          have n1_ := As_ (blk_grown (g := gb173) (o := .cells #[.int .i64 a0_0, .int .i64 a0_1, .slice (some ad181) l0_2.length c0_2] 24 (0, 0)) (by (with_reducible repeat (first | apply kN_ | apply kD_ | apply kA_)); exact BK173.out) hg (Kd.R_ne HO184.out BK173.out (by decide)))
                          have n2_ := As_ (blk_grown (g := gb174) (o := .cells #[.int .i64 0, .int .i64 0, .slice none 0 0] 24 (0, 0)) (by (with_reducible repeat (first | apply kN_ | apply kD_ | apply kA_)); exact BK174.out) hg (Kd.R_ne HO184.out BK174.out (by decide)))
                          have n3_ := As_ (blk_grown (g := gb180) (o := .cells #[.int .i64 t175, .int .i64 t176, .slice Ao13 t177.length co13] 24 (0, 0)) (by (with_reducible repeat (first | apply kN_ | apply kD_ | apply kA_)); exact BK180.out) hg (Kd.R_ne HO184.out BK180.out (by decide)))
                          have n4_ := As_ (Kd.R_after (ok := (fun k_ => some k_ ≠ (.slice Ao13 t177.length co13 : Value).ownBlock)) (by (with_reducible repeat (first | apply rA_ | apply rN_ | apply rD_)); exact Kd.R_mono HO194.out (fun _ hk => ⟨hk.1.2, hk.2⟩)) hg hat)
                          have n5_ := As_ (hb)
                          have n6_ := As_ (ho)
                          clear HO_181002 BK173 BK174 BK180 HO194 HB HO184
                          have HO_181002 := n0_
                          have BK173 := n1_
                          have BK174 := n2_
                          have BK180 := n3_
                          have HO194 := n4_
                          have HB := n5_
                          have HO191 := n6_
                          clear n0_ n1_ n2_ n3_ n4_ n5_ n6_ ho hb hg hat
                          refine hK.out _ _ ⟨(blk_cell BK173.out 0).trans rfl, (blk_cell BK173.out 1).trans rfl, (blk_cell BK173.out 2).trans rfl⟩ (fun hHeld => ?_)
                          clear hK K
                          refine norm_ (a' := ?_) ?_ ?_
                          rotate_left
                          · show Act.put _ (some 32) _ = _
                            simp only [Act.put, List.setIfInBounds_toArray, List.set_cons_zero, List.set_cons_succ, i64_w, i32_w]
                            rfl
                          exact norm_ (by simp only [putAll, Act.put, List.setIfInBounds_toArray, List.set_cons_zero, List.set_cons_succ]) (hCont (v183, v190, v193) _ ⟨hHeld, (by (with_reducible repeat (first | apply rA_ | apply rN_ | apply rD_)); exact Kd.R_mono HO191.out (fun _ hk => ⟨hk.2, hk.1⟩)), (by (with_reducible repeat (first | apply rA_ | apply rN_ | apply rD_)); exact Kd.R_mono HO194.out (fun _ hk => ⟨hk.2, hk.1⟩)), (by (with_reducible repeat (first | apply rA_ | apply rN_ | apply rD_)); exact Kd.R_mono HO_181002.out (fun _ hk => ⟨hk.2, hk.1⟩)), (by (with_reducible repeat (first | apply kN_ | apply kD_ | apply kA_)); exact BK173.out), (by (with_reducible repeat (first | apply kN_ | apply kD_ | apply kA_)); exact BK174.out), (by (with_reducible repeat (first | apply kN_ | apply kD_ | apply kA_)); exact BK180.out), (by repeat (first | (with_reducible first | exact HB.out | apply bA_ | apply bN_ | apply bD_ | refine bS_ ?_ GE173.out | refine bS_ ?_ GE174.out | refine bS_ ?_ GE180.out) | exact HB.out))⟩)
                      · skip
                        refine Kd.R_lit_step k48 _ 48 ?hg (N := 37) ?hd (xs := ([(⟨a1, a0_1⟩ : S48)] : List (S48))) (inner := [.int .i64 a1, .int .i64 a0_1]) (ok := fun _ => True) (okp := fun _ => True) ?hr ?hp (fun _ hk => hk) trivial (Below.refl _ _) (Nat.le_refl _) (by simp) ?_; (case hd => rfl); (case hg => rfl); (case hr => first | (go_simp; done) | (go_simp; rfl)); (case hp => exact (Reps.c2 (show Kd.M k48 _ _ _ (⟨a1, a0_1⟩ : S48) [.int .i64 a1, .int .i64 a0_1] from (k48_mkM _ _ _ (⟨a1, a0_1⟩ : S48) )) (Reps.none _ _)))
                        intro v193 w34 ho35 hb hg_ hnew_
                        clear hg_ hnew_
                        (first | rw [← Ny192.out] at ho35 | (simp only [Int.reduceToNat] at ho35; rw [← Ny192.out] at ho35))
                        have n0_ := As_ (Kd.R_elder' (by (with_reducible repeat (first | apply rA_ | apply rN_ | apply rD_)); exact HO_181002.out) (Kd.R_base ho35) hb)
                        have n1_ := As_ (Kd.R_lower (Kd.R_new' ho35 (Kd.R_lt (by (with_reducible repeat (first | apply rA_ | apply rN_ | apply rD_)); exact HO_181002.out))) (below_size (by repeat (first | (with_reducible first | exact HB.out | apply bA_ | apply bN_ | apply bD_ | refine bS_ ?_ GE173.out | refine bS_ ?_ GE174.out | refine bS_ ?_ GE180.out) | exact HB.out))))
                        have n2_ := As_ (blk_below (g := gb173) (o := .cells #[.int .i64 a0_0, .int .i64 a0_1, .slice (some ad181) l0_2.length c0_2] 24 (0, 0)) (by (with_reducible repeat (first | apply kN_ | apply kD_ | apply kA_)); exact BK173.out) hb)
                        have n3_ := As_ (blk_below (g := gb174) (o := .cells #[.int .i64 0, .int .i64 0, .slice none 0 0] 24 (0, 0)) (by (with_reducible repeat (first | apply kN_ | apply kD_ | apply kA_)); exact BK174.out) hb)
                        have n4_ := As_ (blk_below (g := gb180) (o := .cells #[.int .i64 t175, .int .i64 t176, .slice Ao13 t177.length co13] 24 (0, 0)) (by (with_reducible repeat (first | apply kN_ | apply kD_ | apply kA_)); exact BK180.out) hb)
                        have n5_ := As_ (below_step (by repeat (first | (with_reducible first | exact HB.out | apply bA_ | apply bN_ | apply bD_ | refine bS_ ?_ GE173.out | refine bS_ ?_ GE174.out | refine bS_ ?_ GE180.out) | exact HB.out)) hb)
                        clear HO_181002 BK173 BK174 BK180 HB
                        have HO_181002 := n0_
                        have HO194 := n1_
                        have BK173 := n2_
                        have BK174 := n3_
                        have BK180 := n4_
                        have HB := n5_
                        clear n0_ n1_ n2_ n3_ n4_ n5_ hb ho35
                        refine hK.out _ _ ⟨(blk_cell BK173.out 0).trans rfl, (blk_cell BK173.out 1).trans rfl, (blk_cell BK173.out 2).trans rfl⟩ (fun hHeld => ?_)
                        clear hK K
                        refine norm_ (a' := ?_) ?_ ?_
                        rotate_left
                        · show Act.put _ (some 37) _ = _
                          simp only [Act.put, List.setIfInBounds_toArray, List.set_cons_zero, List.set_cons_succ, i64_w, i32_w]
                          rfl
                        refine one_ (i := 0) (N := some 27) #[true, true, true, true, true, false, true, true, true, true, true, false, false, false] rfl rfl (one_of HT_.out (by kernel_rfl)) (by decide) (fun K hK => ?_)
                        refine Kd.R_lit_step k48 _ 48 ?hg (N := 27) ?hd (xs := ([] : List (S48))) (inner := []) (ok := fun _ => True) (okp := fun _ => True) ?hr ?hp (fun _ hk => hk) trivial (Below.refl _ _) (Nat.le_refl _) (by simp) ?_; (case hd => rfl); (case hg => rfl); (case hr => first | (go_simp; done) | (go_simp; rfl)); (case hp => exact (Reps.none _ _))
                        intro v183 w36 ho37 hb hg_ hnew_
                        clear hg_ hnew_
                        (first | rw [← Ny182.out] at ho37 | (simp only [Int.reduceToNat] at ho37; rw [← Ny182.out] at ho37))
                        have n0_ := As_ (Kd.R_elder' (by (with_reducible repeat (first | apply rA_ | apply rN_ | apply rD_)); exact HO_181002.out) (Kd.R_base ho37) hb)
                        have n1_ := As_ (Kd.R_elder' (by (with_reducible repeat (first | apply rA_ | apply rN_ | apply rD_)); exact HO194.out) (Kd.R_base ho37) hb)
                        have n2_ := As_ (Kd.R_lower (Kd.R_new' (Kd.R_new' ho37 (Kd.R_lt (by (with_reducible repeat (first | apply rA_ | apply rN_ | apply rD_)); exact HO_181002.out))) (Kd.R_lt (by (with_reducible repeat (first | apply rA_ | apply rN_ | apply rD_)); exact HO194.out))) (below_size (by repeat (first | (with_reducible first | exact HB.out | apply bA_ | apply bN_ | apply bD_ | refine bS_ ?_ GE173.out | refine bS_ ?_ GE174.out | refine bS_ ?_ GE180.out) | exact HB.out))))
                        have n3_ := As_ (blk_below (g := gb173) (o := .cells #[.int .i64 a0_0, .int .i64 a0_1, .slice (some ad181) l0_2.length c0_2] 24 (0, 0)) (by (with_reducible repeat (first | apply kN_ | apply kD_ | apply kA_)); exact BK173.out) hb)
                        have n4_ := As_ (blk_below (g := gb174) (o := .cells #[.int .i64 0, .int .i64 0, .slice none 0 0] 24 (0, 0)) (by (with_reducible repeat (first | apply kN_ | apply kD_ | apply kA_)); exact BK174.out) hb)
                        have n5_ := As_ (blk_below (g := gb180) (o := .cells #[.int .i64 t175, .int .i64 t176, .slice Ao13 t177.length co13] 24 (0, 0)) (by (with_reducible repeat (first | apply kN_ | apply kD_ | apply kA_)); exact BK180.out) hb)
                        have n6_ := As_ (below_step (by repeat (first | (with_reducible first | exact HB.out | apply bA_ | apply bN_ | apply bD_ | refine bS_ ?_ GE173.out | refine bS_ ?_ GE174.out | refine bS_ ?_ GE180.out) | exact HB.out)) hb)
                        clear HO_181002 HO194 BK173 BK174 BK180 HB
                        have HO_181002 := n0_
                        have HO194 := n1_
                        have HO184 := n2_
                        have BK173 := n3_
                        have BK174 := n4_
                        have BK180 := n5_
                        have HB := n6_
                        clear n0_ n1_ n2_ n3_ n4_ n5_ n6_ hb ho37
                        refine hK.out _ _ ⟨(blk_cell BK173.out 0).trans rfl, (blk_cell BK173.out 1).trans rfl, (blk_cell BK173.out 2).trans rfl⟩ (fun hHeld => ?_)
                        clear hK K
                        refine norm_ (a' := ?_) ?_ ?_
                        rotate_left
                        · show Act.put _ (some 27) _ = _
                          simp only [Act.put, List.setIfInBounds_toArray, List.set_cons_zero, List.set_cons_succ, i64_w, i32_w]
                          rfl
                        refine one_ (i := 5) (N := some 32) #[true, true, true, true, true, true, true, true, true, true, true, false, false, false] rfl rfl (one_of HT_.out (by kernel_rfl)) (by decide) (fun K hK => ?_)
                        refine Kd.R_append_rows_step k48 (w0 := w) w.heap.size (by rfl) (.tmp 27) (.tmp 31) 22 48 (.agg #[(.int .i64 0), (.int .i64 0)]) 16 rfl Try.underlying22 info48 rfl (by decide) (by omega) v183 y182 y185 _ _ _ (fun k_ => some k_ ≠ (.slice Ao13 t177.length co13 : Value).ownBlock ∧ some k_ ≠ (v193 : Value).ownBlock) (fun _ => False) rfl rfl ?aO ?aR (fun _ _ h => h) (fun _ h => h.elim) ?aF ?aB ?aS ?aL ?_
                        (case aR => repeat (first | exact (Kd.C_below HR188.out HB.out) | (with_reducible first | apply cA_ | apply cN_ | apply cD_)))
                        (case aB => exact (by repeat (first | (with_reducible first | exact HB.out | apply bA_ | apply bN_ | apply bD_ | refine bS_ ?_ GE173.out | refine bS_ ?_ GE174.out | refine bS_ ?_ GE180.out) | exact HB.out)))
                        (case aF => exact (fun k_ hk => ⟨Kd.fresh' (Kd.R_lt (by (with_reducible repeat (first | apply rA_ | apply rN_ | apply rD_)); exact HO_181002.out)) k_ hk, Kd.fresh' (Kd.R_lt (by (with_reducible repeat (first | apply rA_ | apply rN_ | apply rD_)); exact HO194.out)) k_ hk⟩))
                        (case aO => exact (by (with_reducible repeat (first | apply rA_ | apply rN_ | apply rD_)); exact Kd.R_mono HO184.out (fun _ hk => ⟨hk.1.2, hk.2⟩)))
                        (case aS => exact (below_size (by repeat (first | (with_reducible first | exact HB.out | apply bA_ | apply bN_ | apply bD_ | refine bS_ ?_ GE173.out | refine bS_ ?_ GE174.out | refine bS_ ?_ GE180.out) | exact HB.out))))
                        (case aL => have := LMc22.out; omega)
                        intro v190 w38 ho hb hg hat
                        rw [← Ny189.out] at ho
                        have n0_ := As_ (Kd.R_after (ok := (fun k_ => some k_ ≠ (v193 : Value).ownBlock)) (by (with_reducible repeat (first | apply rA_ | apply rN_ | apply rD_)); exact Kd.R_mono HO_181002.out (fun _ hk => ⟨hk.1.2, hk.2⟩)) hg hat)
                        have n1_ := As_ (blk_grown (g := gb173) (o := .cells #[.int .i64 a0_0, .int .i64 a0_1, .slice (some ad181) l0_2.length c0_2] 24 (0, 0)) (by (with_reducible repeat (first | apply kN_ | apply kD_ | apply kA_)); exact BK173.out) hg (Kd.R_ne HO184.out BK173.out (by decide)))
                        have n2_ := As_ (blk_grown (g := gb174) (o := .cells #[.int .i64 0, .int .i64 0, .slice none 0 0] 24 (0, 0)) (by (with_reducible repeat (first | apply kN_ | apply kD_ | apply kA_)); exact BK174.out) hg (Kd.R_ne HO184.out BK174.out (by decide)))
                        have n3_ := As_ (blk_grown (g := gb180) (o := .cells #[.int .i64 t175, .int .i64 t176, .slice Ao13 t177.length co13] 24 (0, 0)) (by (with_reducible repeat (first | apply kN_ | apply kD_ | apply kA_)); exact BK180.out) hg (Kd.R_ne HO184.out BK180.out (by decide)))
                        have n4_ := As_ (Kd.R_after (ok := (fun k_ => some k_ ≠ (.slice Ao13 t177.length co13 : Value).ownBlock)) (by (with_reducible repeat (first | apply rA_ | apply rN_ | apply rD_)); exact Kd.R_mono HO194.out (fun _ hk => ⟨hk.1.2, hk.2⟩)) hg hat)
                        have n5_ := As_ (hb)
                        have n6_ := As_ (ho)
                        clear HO_181002 BK173 BK174 BK180 HO194 HB HO184
                        have HO_181002 := n0_
                        have BK173 := n1_
                        have BK174 := n2_
                        have BK180 := n3_
                        have HO194 := n4_
                        have HB := n5_
                        have HO191 := n6_
                        clear n0_ n1_ n2_ n3_ n4_ n5_ n6_ ho hb hg hat
                        refine hK.out _ _ ⟨(blk_cell BK173.out 0).trans rfl, (blk_cell BK173.out 1).trans rfl, (blk_cell BK173.out 2).trans rfl⟩ (fun hHeld => ?_)
                        clear hK K
                        refine norm_ (a' := ?_) ?_ ?_
                        rotate_left
                        · show Act.put _ (some 32) _ = _
                          simp only [Act.put, List.setIfInBounds_toArray, List.set_cons_zero, List.set_cons_succ, i64_w, i32_w]
                          rfl
                        exact norm_ (by simp only [putAll, Act.put, List.setIfInBounds_toArray, List.set_cons_zero, List.set_cons_succ]) (hCont (v183, v190, v193) _ ⟨hHeld, (by (with_reducible repeat (first | apply rA_ | apply rN_ | apply rD_)); exact Kd.R_mono HO191.out (fun _ hk => ⟨hk.2, hk.1⟩)), (by (with_reducible repeat (first | apply rA_ | apply rN_ | apply rD_)); exact Kd.R_mono HO194.out (fun _ hk => ⟨hk.2, hk.1⟩)), (by (with_reducible repeat (first | apply rA_ | apply rN_ | apply rD_)); exact Kd.R_mono HO_181002.out (fun _ hk => ⟨hk.2, hk.1⟩)), (by (with_reducible repeat (first | apply kN_ | apply kD_ | apply kA_)); exact BK173.out), (by (with_reducible repeat (first | apply kN_ | apply kD_ | apply kA_)); exact BK174.out), (by (with_reducible repeat (first | apply kN_ | apply kD_ | apply kA_)); exact BK180.out), (by repeat (first | (with_reducible first | exact HB.out | apply bA_ | apply bN_ | apply bD_ | refine bS_ ?_ GE173.out | refine bS_ ?_ GE174.out | refine bS_ ?_ GE180.out) | exact HB.out))⟩)
                    rintro ⟨v183, v190, v193⟩ w39 ⟨hS_, h0_, h1_, h2_, h3_, h4_, h5_, h6_⟩
                    have HO191 : Aside0 (Kd.R k48 48 w39 w.heap.size (fun k_ => some k_ ≠ (v193 : Value).ownBlock ∧ some k_ ≠ (.slice Ao13 t177.length co13 : Value).ownBlock) v190 y189) := ⟨h0_⟩
                    have HO194 : Aside0 (Kd.R k48 48 w39 w.heap.size (fun k_ => some k_ ≠ (v190 : Value).ownBlock ∧ some k_ ≠ (.slice Ao13 t177.length co13 : Value).ownBlock) v193 y192) := ⟨h1_⟩
                    replace HO_181002 : Aside0 (Kd.R k48 48 w39 w.heap.size (fun k_ => some k_ ≠ (v190 : Value).ownBlock ∧ some k_ ≠ (v193 : Value).ownBlock) (.slice Ao13 t177.length co13) t177) := ⟨h2_⟩
                    replace BK173 : Aside0 (w39.heap[gb173]? = some (.cells #[.int .i64 a0_0, .int .i64 a0_1, .slice (some ad181) l0_2.length c0_2] 24 (0, 0))) := ⟨h3_⟩
                    replace BK174 : Aside0 (w39.heap[gb174]? = some (.cells #[.int .i64 0, .int .i64 0, .slice none 0 0] 24 (0, 0))) := ⟨h4_⟩
                    replace BK180 : Aside0 (w39.heap[gb180]? = some (.cells #[.int .i64 t175, .int .i64 t176, .slice Ao13 t177.length co13] 24 (0, 0))) := ⟨h5_⟩
                    replace HB : Aside0 (Below w.heap.size w w39) := ⟨h6_⟩
                    clear h0_ h1_ h2_ h3_ h4_ h5_ h6_
                    have hHeld : w39.cell? ⟨gb173, 0, none⟩ = some (.int .i64 a0_0) ∧ w39.cell? ⟨gb173, 1, none⟩ = some (.int .i64 a0_1) ∧ w39.cell? ⟨gb173, 2, none⟩ = some (.slice (some ad181) l0_2.length c0_2) := hS_
                    obtain ⟨Ao41, co41, eo41⟩ := Kd.R_slice HO194.out
                    (first | subst eo41 | (injection eo41 with f1_ f2_ f3_; have f4_ := f1_.symm; have f5_ := f3_.symm; clear f1_ f2_ f3_; subst f4_; subst f5_))
                    refine norm_ (a' := ?_) ?_ ?_
                    rotate_left
                    · simp only [putAll, Act.put, List.setIfInBounds_toArray, List.set_cons_zero, List.set_cons_succ]
                      rfl
                    refine one_ (i := 11) (N := some 38) #[true, true, true, true, true, true, true, true, true, true, true, true, false, false] rfl rfl (one_of HT_.out (by kernel_rfl)) (by decide) (fun K hK => ?_)
                    refine Kd.R_append_rows_step k48 (w0 := w) w.heap.size (by rfl) (.tmp 32) (.tmp 37) 22 48 (.agg #[(.int .i64 0), (.int .i64 0)]) 16 rfl Try.underlying22 info48 rfl (by decide) (by omega) v190 y189 y192 _ _ _ (fun k_ => some k_ ≠ (.slice Ao13 t177.length co13 : Value).ownBlock ∧ some k_ ≠ (.slice Ao41 y192.length co41 : Value).ownBlock) (fun _ => False) rfl rfl ?aO ?aR (fun _ _ h => h) (fun _ h => h.elim) ?aF ?aB ?aS ?aL ?_
                    (case aR => repeat (first | exact (Kd.R_reads' HO194.out).2.2 | (with_reducible first | apply cA_ | apply cN_ | apply cD_)))
                    (case aB => exact (by repeat (first | (with_reducible first | exact HB.out | apply bA_ | apply bN_ | apply bD_ | refine bS_ ?_ GE173.out | refine bS_ ?_ GE174.out | refine bS_ ?_ GE180.out) | exact HB.out)))
                    (case aF => exact (fun k_ hk => ⟨Kd.fresh' (Kd.R_lt (by (with_reducible repeat (first | apply rA_ | apply rN_ | apply rD_)); exact HO_181002.out)) k_ hk, Kd.fresh' (Kd.R_lt (by (with_reducible repeat (first | apply rA_ | apply rN_ | apply rD_)); exact HO194.out)) k_ hk⟩))
                    (case aO => exact (by (with_reducible repeat (first | apply rA_ | apply rN_ | apply rD_)); exact Kd.R_mono HO191.out (fun _ hk => ⟨hk.2, hk.1⟩)))
                    (case aS => exact (below_size (by repeat (first | (with_reducible first | exact HB.out | apply bA_ | apply bN_ | apply bD_ | refine bS_ ?_ GE173.out | refine bS_ ?_ GE174.out | refine bS_ ?_ GE180.out) | exact HB.out))))
                    (case aL => have := LMc23.out; omega)
                    intro v196 w40 ho hb hg hat
                    rw [← Ny195.out] at ho
                    have n0_ := As_ (Kd.R_after (ok := (fun k_ => some k_ ≠ (.slice Ao41 y192.length co41 : Value).ownBlock)) (by (with_reducible repeat (first | apply rA_ | apply rN_ | apply rD_)); exact Kd.R_mono HO_181002.out (fun _ hk => ⟨hk.2, hk.1⟩)) hg hat)
                    have n1_ := As_ (blk_grown (g := gb173) (o := .cells #[.int .i64 a0_0, .int .i64 a0_1, .slice (some ad181) l0_2.length c0_2] 24 (0, 0)) (by (with_reducible repeat (first | apply kN_ | apply kD_ | apply kA_)); exact BK173.out) hg (Kd.R_ne HO191.out BK173.out (by decide)))
                    have n2_ := As_ (blk_grown (g := gb174) (o := .cells #[.int .i64 0, .int .i64 0, .slice none 0 0] 24 (0, 0)) (by (with_reducible repeat (first | apply kN_ | apply kD_ | apply kA_)); exact BK174.out) hg (Kd.R_ne HO191.out BK174.out (by decide)))
                    have n3_ := As_ (blk_grown (g := gb180) (o := .cells #[.int .i64 t175, .int .i64 t176, .slice Ao13 t177.length co13] 24 (0, 0)) (by (with_reducible repeat (first | apply kN_ | apply kD_ | apply kA_)); exact BK180.out) hg (Kd.R_ne HO191.out BK180.out (by decide)))
                    have n4_ := As_ (Kd.R_after (ok := (fun k_ => some k_ ≠ (.slice Ao13 t177.length co13 : Value).ownBlock)) (by (with_reducible repeat (first | apply rA_ | apply rN_ | apply rD_)); exact Kd.R_mono HO194.out (fun _ hk => ⟨hk.2, hk.1⟩)) hg hat)
                    have n5_ := As_ (hb)
                    have n6_ := As_ (ho)
                    clear HO_181002 BK173 BK174 BK180 HO194 HB HO191
                    have HO_181002 := n0_
                    have BK173 := n1_
                    have BK174 := n2_
                    have BK180 := n3_
                    have HO194 := n4_
                    have HB := n5_
                    have HO197 := n6_
                    clear n0_ n1_ n2_ n3_ n4_ n5_ n6_ ho hb hg hat
                    obtain ⟨Ao42, co42, eo42⟩ := Kd.R_slice HO197.out
                    (first | subst eo42 | (injection eo42 with f1_ f2_ f3_; have f4_ := f1_.symm; have f5_ := f3_.symm; clear f1_ f2_ f3_; subst f4_; subst f5_))
                    refine hK.out _ _ ⟨(blk_cell BK173.out 0).trans rfl, (blk_cell BK173.out 1).trans rfl, (blk_cell BK173.out 2).trans rfl⟩ (fun hHeld => ?_)
                    clear hK K
                    refine norm_ (a' := ?_) ?_ ?_
                    rotate_left
                    · show Act.put _ (some 38) _ = _
                      simp only [Act.put, List.setIfInBounds_toArray, List.set_cons_zero, List.set_cons_succ, i64_w, i32_w]
                      rfl
                    refine pure_ (i := 12) (N := some 39) (v := ?_) (a' := ?_) #[true, true, true, true, true, true, true, true, true, true, true, true, true, false] rfl rfl (any_of HT_.out (by kernel_rfl)) (fun _ _ _ h => h) (Or.inl ⟨by rfl, ?_⟩) ?_ ?_
                    rotate_left
                    · intro w'
                      go_simp
                      with_reducible rfl
                    rotate_left
                    · simp only [Act.put, List.setIfInBounds_toArray, List.set_cons_zero, List.set_cons_succ, i64_w, i32_w]
                      rfl
                    refine one_ (i := 13) (N := none) #[true, true, true, true, true, true, true, true, true, true, true, true, true, true] rfl rfl (one_of HT_.out (by kernel_rfl)) (by decide) (fun K hK => ?_)
                    have hs43 : w40.cell? ⟨gb180, 2, none⟩ = some (.slice Ao13 t177.length co13) := (blk_cell BK180.out 2).trans rfl
                    have hfs43 := blk_frozen BK180.out 2
                    have hns43_0 := NB173_180.out
                    have hns43_1 := NB174_180.out
                    have hms43_0 := NB180_173.out
                    have hms43_1 := NB180_174.out
                    refine skip_ (w1 := ?_) (by rfl) rfl ?_ ?_
                    rotate_left
                    · go_simp
                      rfl
                    refine hK.out _ _ ⟨((cell_far (p := ⟨gb180, _, none⟩) NB173_180.out _).trans (hHeld.1)), ((cell_far (p := ⟨gb180, _, none⟩) NB173_180.out _).trans (hHeld.2.1)), ((cell_far (p := ⟨gb180, _, none⟩) NB173_180.out _).trans (hHeld.2.2))⟩ (fun hHeld => ?_)
                    clear hK K
                    refine done_ (done_of HT_.out (by kernel_rfl)) ?_
                    try go_wp2
                    have n0_ : Aside0 (Kd.R k48 48 (w40.setCell ⟨gb180, 2, none⟩ (.slice Ao42 y195.length co42)) w.heap.size (fun k_ => some k_ ≠ (.slice Ao41 y192.length co41 : Value).ownBlock ∧ some k_ ≠ (.slice Ao42 y195.length co42 : Value).ownBlock) (.slice Ao13 t177.length co13) t177) := ⟨by (with_reducible repeat (first | apply rA_ | apply rN_ | apply rD_)); exact Kd.R_mono (Kd.R_far (p := ⟨gb180, 2, none⟩) (Kd.R_types HO_181002.out BK180.out (by decide)) (fun _ hk => hk.2) (.slice Ao42 y195.length co42)) (fun _ hk => ⟨hk.1.1, hk.1.2⟩)⟩
                    have n1_ : Aside0 (Kd.R k48 48 (w40.setCell ⟨gb180, 2, none⟩ (.slice Ao42 y195.length co42)) w.heap.size (fun k_ => some k_ ≠ (.slice Ao13 t177.length co13 : Value).ownBlock ∧ some k_ ≠ (.slice Ao42 y195.length co42 : Value).ownBlock) (.slice Ao41 y192.length co41) y192) := ⟨by (with_reducible repeat (first | apply rA_ | apply rN_ | apply rD_)); exact Kd.R_mono (Kd.R_far (p := ⟨gb180, 2, none⟩) (Kd.R_types HO194.out BK180.out (by decide)) (fun _ hk => hk.2) (.slice Ao42 y195.length co42)) (fun _ hk => ⟨hk.1.1, hk.1.2⟩)⟩
                    have n2_ : Aside0 (Kd.R k48 48 (w40.setCell ⟨gb180, 2, none⟩ (.slice Ao42 y195.length co42)) w.heap.size (fun k_ => some k_ ≠ (.slice Ao13 t177.length co13 : Value).ownBlock ∧ some k_ ≠ (.slice Ao41 y192.length co41 : Value).ownBlock) (.slice Ao42 y195.length co42) y195) := ⟨by (with_reducible repeat (first | apply rA_ | apply rN_ | apply rD_)); exact Kd.R_mono (Kd.R_far (p := ⟨gb180, 2, none⟩) (Kd.R_types HO197.out BK180.out (by decide)) (fun _ hk => hk.2) (.slice Ao42 y195.length co42)) (fun _ hk => ⟨hk.1.1, hk.1.2⟩)⟩
                    have n3_ : Aside0 ((w40.setCell ⟨gb180, 2, none⟩ (.slice Ao42 y195.length co42)).heap[gb173]? = some (.cells #[.int .i64 a0_0, .int .i64 a0_1, .slice (some ad181) l0_2.length c0_2] 24 (0, 0))) := ⟨by (with_reducible repeat (first | apply kN_ | apply kD_ | apply kA_)); refine blk_far ?_ NB173_180.out _; (with_reducible repeat (first | apply kN_ | apply kD_ | apply kA_)); exact BK173.out⟩
                    have n4_ : Aside0 ((w40.setCell ⟨gb180, 2, none⟩ (.slice Ao42 y195.length co42)).heap[gb174]? = some (.cells #[.int .i64 0, .int .i64 0, .slice none 0 0] 24 (0, 0))) := ⟨by (with_reducible repeat (first | apply kN_ | apply kD_ | apply kA_)); refine blk_far ?_ NB174_180.out _; (with_reducible repeat (first | apply kN_ | apply kD_ | apply kA_)); exact BK174.out⟩
                    have n5_ : Aside0 ((w40.setCell ⟨gb180, 2, none⟩ (.slice Ao42 y195.length co42)).heap[gb180]? = some (.cells #[.int .i64 t175, .int .i64 t176, .slice Ao42 y195.length co42] 24 (0, 0))) := ⟨by (with_reducible repeat (first | apply kN_ | apply kD_ | apply kA_)); refine blk_put (cs := #[.int .i64 t175, .int .i64 t176, .slice Ao13 t177.length co13]) ?_ 2 _ rfl; (with_reducible repeat (first | apply kN_ | apply kD_ | apply kA_)); exact BK180.out⟩
                    have n6_ : Aside0 (Below w.heap.size w (w40.setCell ⟨gb180, 2, none⟩ (.slice Ao42 y195.length co42))) := ⟨by repeat (first | (with_reducible first | exact HB.out | apply bA_ | apply bN_ | apply bD_ | refine bS_ ?_ GE173.out | refine bS_ ?_ GE174.out | refine bS_ ?_ GE180.out) | exact HB.out)⟩
                    (try clear HO_181002)
                    (try clear HO194)
                    (try clear HO197)
                    (try clear BK173)
                    (try clear BK174)
                    (try clear BK180)
                    (try clear HB)
                    generalize (w40.setCell ⟨gb180, 2, none⟩ (.slice Ao42 y195.length co42)) = w44 at n0_ n1_ n2_ n3_ n4_ n5_ n6_ ⊢
                    have HO_181002 := n0_
                    have HO194 := n1_
                    have HO197 := n2_
                    have BK173 := n3_
                    have BK174 := n4_
                    have BK180 := n5_
                    have HB := n6_
                    clear n0_ n1_ n2_ n3_ n4_ n5_ n6_
                    replace HO_181002 := As_ (Kd.R_drew HO_181002.out)
                    replace HO194 := As_ (Kd.R_drew HO194.out)
                    replace HO197 := As_ (Kd.R_drew HO197.out)
                    replace BK173 := As_ (blk_drew BK173.out)
                    replace BK174 := As_ (blk_drew BK174.out)
                    replace BK180 := As_ (blk_drew BK180.out)
                    replace HB := As_ (below_drew1 HB.out)
                    have q46 : (x7_1 : Int) ≤ ((l0_2.length : Int) : Int) := of_decide_eq_true (by first | (with_reducible assumption) | assumption)
                    obtain ⟨i046, hi046, _, hsz46, _⟩ := info_parts info48
                    have hroom46 : l0_2.length ≤ c0_2 := HC0_2.out
                    have hC46 : Kd.C k48 _ (some ad181) l0_2.length l0_2 := HR0_2.out
                    have q046 : (0 : Int) ≤ (x7_1 : Int) := of_decide_eq_true (by first | (with_reducible assumption) | assumption)
                    have hcut46 := cut_from (P := Try.prog) 22 48 .i64 Try.underlying22 hi046 2 hsz46 (some ad181) l0_2.length c0_2 x7_1 q046 q46
                    have hr46 := Kd.C_drop (m := (x7_1 : Int).toNat) (c := c0_2) hC46 (by omega) hroom46
                    obtain ⟨A46, hA46⟩ : ∃ A1, A1 = (if c0_2 = (x7_1 : Int).toNat then (some ad181) else ((some ad181) : Option Addr).map (·.add ((x7_1 : Int).toNat * 2))) := ⟨_, rfl⟩
                    obtain ⟨c46, hc46⟩ : ∃ c1, c1 = c0_2 - (x7_1 : Int).toNat := ⟨_, rfl⟩
                    have hy46 : y198.length = l0_2.length - (x7_1 : Int).toNat := (by rw [Ny198.out, List.length_drop] <;> omega)
                    rw [show (l0_2).drop (x7_1 : Int).toNat = y198 from Ny198.out.symm] at hr46
                    replace hr46 : Kd.C k48 _ A46 y198.length y198 := (by rw [hA46]; exact hr46)
                    rw [← hy46, ← hA46, ← hc46] at hcut46
                    have HR201 := Aside0.mk hr46
                    have HC201 := As_ (show y198.length ≤ c46 from by rw [hy46, hc46]; exact Nat.sub_le_sub_right hroom46 _)
                    clear hr46 hC46 hroom46 hi046 hsz46 hc46
                    have KY46 := Aside0.mk hy46
                    have KA46 := Aside0.mk hA46
                    clear hy46 hA46
                    replace q46 := eq_true q46
                    refine start_ (n := 9) (S := fun w' => w'.cell? ⟨gb180, 0, none⟩ = some (.int .i64 t175) ∧ w'.cell? ⟨gb180, 1, none⟩ = some (.int .i64 t176) ∧ w'.cell? ⟨gb180, 2, none⟩ = some (.slice Ao42 y195.length co42) ∧ w'.cell? ⟨gb173, 0, none⟩ = some (.int .i64 a0_0) ∧ w'.cell? ⟨gb173, 1, none⟩ = some (.int .i64 a0_1) ∧ w'.cell? ⟨gb173, 2, none⟩ = some (.slice (some ad181) l0_2.length c0_2)) (ds := [8]) #[false, false, false, false, false, false, false, false, false] (by kernel_rfl) rfl rfl ⟨(blk_cell BK180.out 0).trans rfl, (blk_cell BK180.out 1).trans rfl, (blk_cell BK180.out 2).trans rfl, (blk_cell BK173.out 0).trans rfl, (blk_cell BK173.out 1).trans rfl, (blk_cell BK173.out 2).trans rfl⟩ (fun hHeld => ?_); refine with_tabW spec_OpenLane.tab6 spec_OpenLane.bits6 (fun HT_ HW_ => ?_)
                    generalize w44.drew = w45 at HO_181002 HO194 HO197 BK173 BK174 BK180 HB HR201 hHeld ⊢
                    refine pure_ (i := 0) (N := some 40) (v := ?_) (a' := ?_) #[true, false, false, false, false, false, false, false, false] rfl rfl (any_of HT_.out (by kernel_rfl)) (fun _ _ _ h => h) (Or.inl ⟨by rfl, ?_⟩) ?_ ?_
                    rotate_left
                    · intro w'
                      go_simp
                      with_reducible rfl
                    rotate_left
                    · simp only [Act.put, List.setIfInBounds_toArray, List.set_cons_zero, List.set_cons_succ, i64_w, i32_w]
                      rfl
                    refine pure_ (i := 2) (N := some 42) (v := ?_) (a' := ?_) #[true, false, true, false, false, false, false, false, false] rfl rfl (any_of HT_.out (by kernel_rfl)) (fun _ _ _ h => h) (Or.inl ⟨by rfl, ?_⟩) ?_ ?_
                    rotate_left
                    · intro w'
                      go_simp
                      with_reducible rfl
                    rotate_left
                    · simp only [Act.put, List.setIfInBounds_toArray, List.set_cons_zero, List.set_cons_succ, i64_w, i32_w]
                      rfl
                    refine pure_ (i := 4) (N := some 44) (v := ?_) (a' := ?_) #[true, false, true, false, true, false, false, false, false] rfl rfl (any_of HT_.out (by kernel_rfl)) (fun _ _ _ h => h) (Or.inl ⟨by rfl, ?_⟩) ?_ ?_
                    rotate_left
                    · intro w'
                      go_simp
                      with_reducible rfl
                    rotate_left
                    · simp only [Act.put, List.setIfInBounds_toArray, List.set_cons_zero, List.set_cons_succ, i64_w, i32_w]
                      rfl
                    refine take_ (i := 1) (N := some 41) (v := ?_) (a' := ?_) #[true, true, true, false, true, false, false, false, false] rfl rfl (take_ofW HT_.out HW_.out (by kernel_rfl)) (fun _ _ _ h => h) (Or.inl ⟨by rfl, ?_⟩) hHeld ?_ ?_
                    rotate_left
                    · rintro w' ⟨s0, s1, s2, s3, s4, s5⟩
                      go_simp
                      with_reducible rfl
                    rotate_left
                    · simp only [Act.put, List.setIfInBounds_toArray, List.set_cons_zero, List.set_cons_succ, i64_w, i32_w]
                      rfl
                    refine take_ (i := 3) (N := some 43) (v := ?_) (a' := ?_) #[true, true, true, true, true, false, false, false, false] rfl rfl (take_ofW HT_.out HW_.out (by kernel_rfl)) (fun _ _ _ h => h) (Or.inl ⟨by rfl, ?_⟩) hHeld ?_ ?_
                    rotate_left
                    · rintro w' ⟨s0, s1, s2, s3, s4, s5⟩
                      go_simp
                      with_reducible rfl
                    rotate_left
                    · simp only [Act.put, List.setIfInBounds_toArray, List.set_cons_zero, List.set_cons_succ, i64_w, i32_w]
                      rfl
                    refine pure_ (i := 5) (N := some 45) (v := ?_) (a' := ?_) #[true, true, true, true, true, true, false, false, false] rfl rfl (any_of HT_.out (by kernel_rfl)) (fun _ _ _ h => h) (Or.inl ⟨by rfl, ?_⟩) ?_ ?_
                    rotate_left
                    · intro w'
                      go_simp
                      with_reducible rfl
                    rotate_left
                    · simp only [Act.put, List.setIfInBounds_toArray, List.set_cons_zero, List.set_cons_succ, i64_w, i32_w]
                      rfl
                    refine one_ (i := 6) (N := some 46) #[true, true, true, true, true, true, true, false, false] rfl rfl (one_of HT_.out (by kernel_rfl)) (by decide) (fun K hK => ?_)
                    refine Kd.R_append_rows_step k48 (w0 := w) w.heap.size (by rfl) (.tmp 41) (.tmp 45) 22 48 (.agg #[(.int .i64 0), (.int .i64 0)]) 16 rfl Try.underlying22 info48 rfl (by decide) (by omega) (.slice Ao42 y195.length co42) y195 y198 _ _ _ (fun k_ => some k_ ≠ (.slice Ao13 t177.length co13 : Value).ownBlock ∧ some k_ ≠ (.slice Ao41 y192.length co41 : Value).ownBlock) (fun _ => False) rfl rfl ?aO ?aR (fun _ _ h => h) (fun _ h => h.elim) ?aF ?aB ?aS ?aL ?_
                    (case aR => repeat (first | exact (Kd.C_below HR201.out HB.out) | (with_reducible first | apply cA_ | apply cN_ | apply cD_)))
                    (case aB => exact (by repeat (first | (with_reducible first | exact HB.out | apply bA_ | apply bN_ | apply bD_ | refine bS_ ?_ GE173.out | refine bS_ ?_ GE174.out | refine bS_ ?_ GE180.out) | exact HB.out)))
                    (case aF => exact (fun k_ hk => ⟨Kd.fresh' (Kd.R_lt (by (with_reducible repeat (first | apply rA_ | apply rN_ | apply rD_)); exact HO_181002.out)) k_ hk, Kd.fresh' (Kd.R_lt (by (with_reducible repeat (first | apply rA_ | apply rN_ | apply rD_)); exact HO194.out)) k_ hk⟩))
                    (case aO => exact (by (with_reducible repeat (first | apply rA_ | apply rN_ | apply rD_)); exact HO197.out))
                    (case aS => exact (below_size (by repeat (first | (with_reducible first | exact HB.out | apply bA_ | apply bN_ | apply bD_ | refine bS_ ?_ GE173.out | refine bS_ ?_ GE174.out | refine bS_ ?_ GE180.out) | exact HB.out))))
                    (case aL => have := LMc26.out; omega)
                    intro v203 w47 ho hb hg hat
                    rw [← Ny202.out] at ho
                    have n0_ := As_ (Kd.R_after (ok := (fun k_ => some k_ ≠ (.slice Ao41 y192.length co41 : Value).ownBlock)) (by (with_reducible repeat (first | apply rA_ | apply rN_ | apply rD_)); exact HO_181002.out) hg hat)
                    have n1_ := As_ (blk_grown (g := gb173) (o := .cells #[.int .i64 a0_0, .int .i64 a0_1, .slice (some ad181) l0_2.length c0_2] 24 (0, 0)) (by (with_reducible repeat (first | apply kN_ | apply kD_ | apply kA_)); exact BK173.out) hg (Kd.R_ne HO197.out BK173.out (by decide)))
                    have n2_ := As_ (blk_grown (g := gb174) (o := .cells #[.int .i64 0, .int .i64 0, .slice none 0 0] 24 (0, 0)) (by (with_reducible repeat (first | apply kN_ | apply kD_ | apply kA_)); exact BK174.out) hg (Kd.R_ne HO197.out BK174.out (by decide)))
                    have n3_ := As_ (blk_grown (g := gb180) (o := .cells #[.int .i64 t175, .int .i64 t176, .slice Ao42 y195.length co42] 24 (0, 0)) (by (with_reducible repeat (first | apply kN_ | apply kD_ | apply kA_)); exact BK180.out) hg (Kd.R_ne HO197.out BK180.out (by decide)))
                    have n4_ := As_ (Kd.R_after (ok := (fun k_ => some k_ ≠ (.slice Ao13 t177.length co13 : Value).ownBlock)) (by (with_reducible repeat (first | apply rA_ | apply rN_ | apply rD_)); exact HO194.out) hg hat)
                    have n5_ := As_ (hb)
                    have n6_ := As_ (ho)
                    clear HO_181002 BK173 BK174 BK180 HO194 HB HO197
                    have HO_181002 := n0_
                    have BK173 := n1_
                    have BK174 := n2_
                    have BK180 := n3_
                    have HO194 := n4_
                    have HB := n5_
                    have HO204 := n6_
                    clear n0_ n1_ n2_ n3_ n4_ n5_ n6_ ho hb hg hat
                    obtain ⟨Ao48, co48, eo48⟩ := Kd.R_slice HO204.out
                    (first | subst eo48 | (injection eo48 with f1_ f2_ f3_; have f4_ := f1_.symm; have f5_ := f3_.symm; clear f1_ f2_ f3_; subst f4_; subst f5_))
                    refine hK.out _ _ ⟨(blk_cell BK180.out 0).trans rfl, (blk_cell BK180.out 1).trans rfl, (blk_cell BK180.out 2).trans rfl, (blk_cell BK173.out 0).trans rfl, (blk_cell BK173.out 1).trans rfl, (blk_cell BK173.out 2).trans rfl⟩ (fun hHeld => ?_)
                    clear hK K
                    refine norm_ (a' := ?_) ?_ ?_
                    rotate_left
                    · show Act.put _ (some 46) _ = _
                      simp only [Act.put, List.setIfInBounds_toArray, List.set_cons_zero, List.set_cons_succ, i64_w, i32_w]
                      rfl
                    refine pure_ (i := 7) (N := some 47) (v := ?_) (a' := ?_) #[true, true, true, true, true, true, true, true, false] rfl rfl (any_of HT_.out (by kernel_rfl)) (fun _ _ _ h => h) (Or.inl ⟨by rfl, ?_⟩) ?_ ?_
                    rotate_left
                    · intro w'
                      go_simp
                      with_reducible rfl
                    rotate_left
                    · simp only [Act.put, List.setIfInBounds_toArray, List.set_cons_zero, List.set_cons_succ, i64_w, i32_w]
                      rfl
                    refine last_ (i := 8) (N := none) #[true, true, true, true, true, true, true, true, true] rfl rfl (one_of HT_.out (by kernel_rfl)) (by decide) (fun K hK => ?_)
                    have hs49 : w47.cell? ⟨gb180, 2, none⟩ = some (.slice Ao42 y195.length co42) := (blk_cell BK180.out 2).trans rfl
                    have hfs49 := blk_frozen BK180.out 2
                    have hns49_0 := NB173_180.out
                    have hns49_1 := NB174_180.out
                    have hms49_0 := NB180_173.out
                    have hms49_1 := NB180_174.out
                    refine skip_ (w1 := ?_) (by rfl) rfl ?_ ?_
                    rotate_left
                    · go_simp
                      rfl
                    refine hK.out _ _ ?_
                    clear hK K
                    refine done_ (done_of HT_.out (by kernel_rfl)) ?_
                    try go_wp2
                    have n0_ : Aside0 (Kd.R k48 48 (w47.setCell ⟨gb180, 2, none⟩ (.slice Ao48 y202.length co48)) w.heap.size (fun k_ => some k_ ≠ (.slice Ao41 y192.length co41 : Value).ownBlock ∧ some k_ ≠ (.slice Ao48 y202.length co48 : Value).ownBlock) (.slice Ao13 t177.length co13) t177) := ⟨by (with_reducible repeat (first | apply rA_ | apply rN_ | apply rD_)); exact Kd.R_mono (Kd.R_far (p := ⟨gb180, 2, none⟩) (Kd.R_types HO_181002.out BK180.out (by decide)) (fun _ hk => hk.2) (.slice Ao48 y202.length co48)) (fun _ hk => ⟨hk.1.1, hk.1.2⟩)⟩
                    have n1_ : Aside0 (Kd.R k48 48 (w47.setCell ⟨gb180, 2, none⟩ (.slice Ao48 y202.length co48)) w.heap.size (fun k_ => some k_ ≠ (.slice Ao13 t177.length co13 : Value).ownBlock ∧ some k_ ≠ (.slice Ao48 y202.length co48 : Value).ownBlock) (.slice Ao41 y192.length co41) y192) := ⟨by (with_reducible repeat (first | apply rA_ | apply rN_ | apply rD_)); exact Kd.R_mono (Kd.R_far (p := ⟨gb180, 2, none⟩) (Kd.R_types HO194.out BK180.out (by decide)) (fun _ hk => hk.2) (.slice Ao48 y202.length co48)) (fun _ hk => ⟨hk.1.1, hk.1.2⟩)⟩
                    have n2_ : Aside0 (Kd.R k48 48 (w47.setCell ⟨gb180, 2, none⟩ (.slice Ao48 y202.length co48)) w.heap.size (fun k_ => some k_ ≠ (.slice Ao13 t177.length co13 : Value).ownBlock ∧ some k_ ≠ (.slice Ao41 y192.length co41 : Value).ownBlock) (.slice Ao48 y202.length co48) y202) := ⟨by (with_reducible repeat (first | apply rA_ | apply rN_ | apply rD_)); exact Kd.R_mono (Kd.R_far (p := ⟨gb180, 2, none⟩) (Kd.R_types HO204.out BK180.out (by decide)) (fun _ hk => hk.2) (.slice Ao48 y202.length co48)) (fun _ hk => ⟨hk.1.1, hk.1.2⟩)⟩
                    have n3_ : Aside0 ((w47.setCell ⟨gb180, 2, none⟩ (.slice Ao48 y202.length co48)).heap[gb173]? = some (.cells #[.int .i64 a0_0, .int .i64 a0_1, .slice (some ad181) l0_2.length c0_2] 24 (0, 0))) := ⟨by (with_reducible repeat (first | apply kN_ | apply kD_ | apply kA_)); refine blk_far ?_ NB173_180.out _; (with_reducible repeat (first | apply kN_ | apply kD_ | apply kA_)); exact BK173.out⟩
                    have n4_ : Aside0 ((w47.setCell ⟨gb180, 2, none⟩ (.slice Ao48 y202.length co48)).heap[gb174]? = some (.cells #[.int .i64 0, .int .i64 0, .slice none 0 0] 24 (0, 0))) := ⟨by (with_reducible repeat (first | apply kN_ | apply kD_ | apply kA_)); refine blk_far ?_ NB174_180.out _; (with_reducible repeat (first | apply kN_ | apply kD_ | apply kA_)); exact BK174.out⟩
                    have n5_ : Aside0 ((w47.setCell ⟨gb180, 2, none⟩ (.slice Ao48 y202.length co48)).heap[gb180]? = some (.cells #[.int .i64 t175, .int .i64 t176, .slice Ao48 y202.length co48] 24 (0, 0))) := ⟨by (with_reducible repeat (first | apply kN_ | apply kD_ | apply kA_)); refine blk_put (cs := #[.int .i64 t175, .int .i64 t176, .slice Ao42 y195.length co42]) ?_ 2 _ rfl; (with_reducible repeat (first | apply kN_ | apply kD_ | apply kA_)); exact BK180.out⟩
                    have n6_ : Aside0 (Below w.heap.size w (w47.setCell ⟨gb180, 2, none⟩ (.slice Ao48 y202.length co48))) := ⟨by repeat (first | (with_reducible first | exact HB.out | apply bA_ | apply bN_ | apply bD_ | refine bS_ ?_ GE173.out | refine bS_ ?_ GE174.out | refine bS_ ?_ GE180.out) | exact HB.out)⟩
                    (try clear HO_181002)
                    (try clear HO194)
                    (try clear HO204)
                    (try clear BK173)
                    (try clear BK174)
                    (try clear BK180)
                    (try clear HB)
                    generalize (w47.setCell ⟨gb180, 2, none⟩ (.slice Ao48 y202.length co48)) = w50 at n0_ n1_ n2_ n3_ n4_ n5_ n6_ ⊢
                    have HO_181002 := n0_
                    have HO194 := n1_
                    have HO204 := n2_
                    have BK173 := n3_
                    have BK174 := n4_
                    have BK180 := n5_
                    have HB := n6_
                    clear n0_ n1_ n2_ n3_ n4_ n5_ n6_
                    replace HO_181002 := As_ (Kd.R_drew HO_181002.out)
                    replace HO194 := As_ (Kd.R_drew HO194.out)
                    replace HO204 := As_ (Kd.R_drew HO204.out)
                    replace BK173 := As_ (blk_drew BK173.out)
                    replace BK174 := As_ (blk_drew BK174.out)
                    replace BK180 := As_ (blk_drew BK180.out)
                    replace HB := As_ (below_drew1 HB.out)
                    refine start_ (n := 11) (S := fun w' => w'.cell? ⟨gb173, 0, none⟩ = some (.int .i64 a0_0) ∧ w'.cell? ⟨gb173, 1, none⟩ = some (.int .i64 a0_1) ∧ w'.cell? ⟨gb173, 2, none⟩ = some (.slice (some ad181) l0_2.length c0_2) ∧ w'.cell? ⟨gb180, 0, none⟩ = some (.int .i64 t175) ∧ w'.cell? ⟨gb180, 1, none⟩ = some (.int .i64 t176) ∧ w'.cell? ⟨gb180, 2, none⟩ = some (.slice Ao48 y202.length co48)) (ds := []) #[false, false, false, false, false, false, false, false, false, false, false] (by kernel_rfl) rfl rfl ⟨(blk_cell BK173.out 0).trans rfl, (blk_cell BK173.out 1).trans rfl, (blk_cell BK173.out 2).trans rfl, (blk_cell BK180.out 0).trans rfl, (blk_cell BK180.out 1).trans rfl, (blk_cell BK180.out 2).trans rfl⟩ (fun hHeld => ?_); refine with_tabW spec_OpenLane.tab7 spec_OpenLane.bits7 (fun HT_ HW_ => ?_)
                    generalize w50.drew = w51 at HO_181002 HO194 HO204 BK173 BK174 BK180 HB hHeld ⊢
                    refine pure_ (i := 3) (N := some 51) (v := ?_) (a' := ?_) #[false, false, false, true, false, false, false, false, false, false, false] rfl rfl (any_of HT_.out (by kernel_rfl)) (fun _ _ _ h => h) (Or.inl ⟨by rfl, ?_⟩) ?_ ?_
                    rotate_left
                    · intro w'
                      go_simp
                      with_reducible rfl
                    rotate_left
                    · simp only [Act.put, List.setIfInBounds_toArray, List.set_cons_zero, List.set_cons_succ, i64_w, i32_w]
                      rfl
                    refine take_ (i := 0) (N := some 48) (v := ?_) (a' := ?_) #[true, false, false, true, false, false, false, false, false, false, false] rfl rfl (take_ofW HT_.out HW_.out (by kernel_rfl)) (fun _ _ _ h => h) (Or.inl ⟨by rfl, ?_⟩) hHeld ?_ ?_
                    rotate_left
                    · rintro w' ⟨s0, s1, s2, s3, s4, s5⟩
                      go_simp
                      with_reducible rfl
                    rotate_left
                    · simp only [Act.put, List.setIfInBounds_toArray, List.set_cons_zero, List.set_cons_succ, i64_w, i32_w]
                      rfl
                    refine take_ (i := 1) (N := some 49) (v := ?_) (a' := ?_) #[true, true, false, true, false, false, false, false, false, false, false] rfl rfl (take_ofW HT_.out HW_.out (by kernel_rfl)) (fun _ _ _ h => h) (Or.inl ⟨by rfl, ?_⟩) hHeld ?_ ?_
                    rotate_left
                    · rintro w' ⟨s0, s1, s2, s3, s4, s5⟩
                      go_simp
                      with_reducible rfl
                    rotate_left
                    · simp only [Act.put, List.setIfInBounds_toArray, List.set_cons_zero, List.set_cons_succ, i64_w, i32_w]
                      rfl
                    refine take_ (i := 2) (N := some 50) (v := ?_) (a' := ?_) #[true, true, true, true, false, false, false, false, false, false, false] rfl rfl (take_ofW HT_.out HW_.out (by kernel_rfl)) (fun _ _ _ h => h) (Or.inl ⟨by rfl, ?_⟩) hHeld ?_ ?_
                    rotate_left
                    · rintro w' ⟨s0, s1, s2, s3, s4, s5⟩
                      go_simp
                      with_reducible rfl
                    rotate_left
                    · simp only [Act.put, List.setIfInBounds_toArray, List.set_cons_zero, List.set_cons_succ, i64_w, i32_w]
                      rfl
                    refine one_ (i := 4) (N := some 52) #[true, true, true, true, true, false, false, false, false, false, false] rfl rfl (one_of HT_.out (by kernel_rfl)) (by decide) (fun K hK => ?_)
                    refine goes_ Try.func46 (by kernel_rfl) rfl #[.agg #[.int .i64 a0_0, .int .i64 a0_1, .slice (some ad181) l0_2.length c0_2], .int .i64 a1] (by rfl) rfl rfl (by (try simp only [List.map_toArray, List.map_cons, List.map_nil]); first | done | rfl | (simp only [List.length_drop, List.length_take]; rfl)) ?_
                    with_reducible refine (spec_l10At.calls k1 a0_0 a0_1 _ _ l0_2 a1 t205 _ ?side1 ?side2 A27.out).mono ?_
                    (case side1 => repeat (first | exact (Kd.C_below HR0_2.out HB.out) | (with_reducible first | apply cA_ | apply cN_ | apply cD_)))
                    (case side2 => exact HC0_2.out)
                    rintro e w52 ⟨rfl, hb⟩
                    refine ⟨_, rfl, ?_⟩
                    replace HO_181002 := As_ (Kd.R_below (by (with_reducible repeat (first | apply rA_ | apply rN_ | apply rD_)); exact HO_181002.out) hb)
                    replace HO194 := As_ (Kd.R_below (by (with_reducible repeat (first | apply rA_ | apply rN_ | apply rD_)); exact HO194.out) hb)
                    replace HO204 := As_ (Kd.R_below (by (with_reducible repeat (first | apply rA_ | apply rN_ | apply rD_)); exact HO204.out) hb)
                    replace BK173 := As_ (blk_below (g := gb173) (o := .cells #[.int .i64 a0_0, .int .i64 a0_1, .slice (some ad181) l0_2.length c0_2] 24 (0, 0)) (by (with_reducible repeat (first | apply kN_ | apply kD_ | apply kA_)); exact BK173.out) hb)
                    replace BK174 := As_ (blk_below (g := gb174) (o := .cells #[.int .i64 0, .int .i64 0, .slice none 0 0] 24 (0, 0)) (by (with_reducible repeat (first | apply kN_ | apply kD_ | apply kA_)); exact BK174.out) hb)
                    replace BK180 := As_ (blk_below (g := gb180) (o := .cells #[.int .i64 t175, .int .i64 t176, .slice Ao48 y202.length co48] 24 (0, 0)) (by (with_reducible repeat (first | apply kN_ | apply kD_ | apply kA_)); exact BK180.out) hb)
                    replace HB := As_ (below_step (by repeat (first | (with_reducible first | exact HB.out | apply bA_ | apply bN_ | apply bD_ | refine bS_ ?_ GE173.out | refine bS_ ?_ GE174.out | refine bS_ ?_ GE180.out) | exact HB.out)) hb)
                    (try clear hb)
                    (try clear hb2)
                    (try clear hk)
                    (try clear hi)
                    refine hK.out _ _ ⟨(blk_cell BK173.out 0).trans rfl, (blk_cell BK173.out 1).trans rfl, (blk_cell BK173.out 2).trans rfl, (blk_cell BK180.out 0).trans rfl, (blk_cell BK180.out 1).trans rfl, (blk_cell BK180.out 2).trans rfl⟩ (fun hHeld => ?_)
                    clear hK K
                    refine norm_ (a' := ?_) ?_ ?_
                    rotate_left
                    · show Act.put _ (some 52) _ = _
                      simp only [Act.put, List.setIfInBounds_toArray, List.set_cons_zero, List.set_cons_succ, i64_w, i32_w]
                      rfl
                    refine pure_ (i := 5) (N := some 53) (v := ?_) (a' := ?_) #[true, true, true, true, true, true, false, false, false, false, false] rfl rfl (any_of HT_.out (by kernel_rfl)) (fun _ _ _ h => h) (Or.inl ⟨by rfl, ?_⟩) ?_ ?_
                    rotate_left
                    · intro w'
                      go_simp
                      with_reducible rfl
                    rotate_left
                    · simp only [Act.put, List.setIfInBounds_toArray, List.set_cons_zero, List.set_cons_succ, i64_w, i32_w]
                      rfl
                    refine one_ (i := 6) (N := some 54) #[true, true, true, true, true, true, true, false, false, false, false] rfl rfl (one_of HT_.out (by kernel_rfl)) (by decide) (fun K hK => ?_)
                    refine goes_ Try.func48 (by kernel_rfl) rfl #[.agg #[.int .i64 a0_0, .int .i64 a0_1, .slice (some ad181) l0_2.length c0_2], .agg #[.int .i64 t175, .int .i64 t176, .slice Ao48 y202.length co48], .bool (decide (t205 < 0))] (by rfl) rfl rfl (by (try simp only [List.map_toArray, List.map_cons, List.map_nil]); first | done | rfl | (simp only [List.length_drop, List.length_take]; rfl)) ?_
                    with_reducible refine (spec_l10Ends.calls k1 a0_0 a0_1 _ _ l0_2 t175 t176 (fun k_ => some k_ = (.slice Ao48 y202.length co48 : Value).ownBlock) (.slice Ao48 y202.length co48) y202 (decide (t205 < 0)) t206 t207 t208 t211 w _ ?side1 ?side2 ?side3 ?side4 A28.out).mono ?_
                    (case side1 => repeat (first | (with_reducible first | exact HB.out | apply bA_ | apply bN_ | apply bD_ | refine bS_ ?_ GE173.out | refine bS_ ?_ GE174.out | refine bS_ ?_ GE180.out) | exact HB.out))
                    (case side2 => exact Kd.C_kept_came k48_heap HR0_2.out (by repeat (first | (with_reducible first | exact HB.out | apply bA_ | apply bN_ | apply bD_ | refine bS_ ?_ GE173.out | refine bS_ ?_ GE174.out | refine bS_ ?_ GE180.out) | exact HB.out)) (fun k_ hs_ => (fun e_ => Kd.R_base HO204.out k_ e_.symm) hs_))
                    (case side3 => exact HC0_2.out)
                    (case side4 => exact Kd.R_tight rfl HO204.out)
                    rintro e w53 ⟨v209, rfl, ho0, hb, hkp⟩
                    refine ⟨_, rfl, ?_⟩
                    have n0_ := As_ (Kd.R_mono (ok' := fun k_ => some k_ ≠ (.slice Ao41 y192.length co41 : Value).ownBlock ∧ some k_ ≠ (v209 : Value).ownBlock) (Kd.R_keptB (HO_181002.out) hkp (fun k_ hk_ hs_ => (hk_.2) hs_)) (fun k_ hk_ => ⟨hk_.1.1, fun e_ => Or.elim (ho0.1 k_ e_.symm) (fun hs_ => hk_.2.1 hs_) (fun hn_ => Nat.not_le.2 hk_.2.2 hn_)⟩))
                    replace BK173 := As_ (blk_kept (by (with_reducible repeat (first | apply kN_ | apply kD_ | apply kA_)); exact BK173.out) hkp (fun hs_ => (fun e_ => (Kd.R_ne HO204.out BK173.out (by decide)) e_) hs_))
                    replace BK174 := As_ (blk_kept (by (with_reducible repeat (first | apply kN_ | apply kD_ | apply kA_)); exact BK174.out) hkp (fun hs_ => (fun e_ => (Kd.R_ne HO204.out BK174.out (by decide)) e_) hs_))
                    replace BK180 := As_ (blk_kept (by (with_reducible repeat (first | apply kN_ | apply kD_ | apply kA_)); exact BK180.out) hkp (fun hs_ => (fun e_ => (Kd.R_ne HO204.out BK180.out (by decide)) e_) hs_))
                    have n4_ := As_ (Kd.R_mono (ok' := fun k_ => some k_ ≠ (.slice Ao13 t177.length co13 : Value).ownBlock ∧ some k_ ≠ (v209 : Value).ownBlock) (Kd.R_keptB (HO194.out) hkp (fun k_ hk_ hs_ => (hk_.2) hs_)) (fun k_ hk_ => ⟨hk_.1.1, fun e_ => Or.elim (ho0.1 k_ e_.symm) (fun hs_ => hk_.2.1 hs_) (fun hn_ => Nat.not_le.2 hk_.2.2 hn_)⟩))
                    have HO210 := As_ (Kd.R_mono (ok' := fun k_ => some k_ ≠ (.slice Ao13 t177.length co13 : Value).ownBlock ∧ some k_ ≠ (.slice Ao41 y192.length co41 : Value).ownBlock) ho0 (fun k_ hk_ => ⟨Or.elim hk_ (fun hs_ => fun e_ => (((HO_181002.out).1 k_ e_.symm).2) hs_) (fun hn_ => (Kd.fresh' (Kd.R_lt (by (with_reducible repeat (first | apply rA_ | apply rN_ | apply rD_)); exact HO_181002.out)) k_ hn_)), Or.elim hk_ (fun hs_ => fun e_ => (((HO194.out).1 k_ e_.symm).2) hs_) (fun hn_ => (Kd.fresh' (Kd.R_lt (by (with_reducible repeat (first | apply rA_ | apply rN_ | apply rD_)); exact HO194.out)) k_ hn_))⟩))
                    replace HB := As_ (hb)
                    clear HO_181002 HO194 HO204
                    have HO_181002 := n0_
                    have HO194 := n4_
                    clear n0_ n4_
                    (try clear hb)
                    (try clear hkp)
                    (try clear ho0)
                    obtain ⟨Ao56, co56, eo56⟩ := Kd.R_slice HO210.out
                    (first | subst eo56 | (injection eo56 with f1_ f2_ f3_; have f4_ := f1_.symm; have f5_ := f3_.symm; clear f1_ f2_ f3_; subst f4_; subst f5_))
                    refine hK.out _ _ ⟨(blk_cell BK173.out 0).trans rfl, (blk_cell BK173.out 1).trans rfl, (blk_cell BK173.out 2).trans rfl, (blk_cell BK180.out 0).trans rfl, (blk_cell BK180.out 1).trans rfl, (blk_cell BK180.out 2).trans rfl⟩ (fun hHeld => ?_)
                    clear hK K
                    refine norm_ (a' := ?_) ?_ ?_
                    rotate_left
                    · show Act.put _ (some 54) _ = _
                      simp only [Act.put, List.setIfInBounds_toArray, List.set_cons_zero, List.set_cons_succ, i64_w, i32_w]
                      rfl
                    refine pure_ (i := 7) (N := some 55) (v := ?_) (a' := ?_) #[true, true, true, true, true, true, true, true, false, false, false] rfl rfl (any_of HT_.out (by kernel_rfl)) (fun _ _ _ h => h) (Or.inl ⟨by rfl, ?_⟩) ?_ ?_
                    rotate_left
                    · intro w'
                      go_simp
                      with_reducible rfl
                    rotate_left
                    · simp only [Act.put, List.setIfInBounds_toArray, List.set_cons_zero, List.set_cons_succ, i64_w, i32_w]
                      rfl
                    refine pure_ (i := 8) (N := some 56) (v := ?_) (a' := ?_) #[true, true, true, true, true, true, true, true, true, false, false] rfl rfl (any_of HT_.out (by kernel_rfl)) (fun _ _ _ h => h) (Or.inl ⟨by rfl, ?_⟩) ?_ ?_
                    rotate_left
                    · intro w'
                      go_simp
                      with_reducible rfl
                    rotate_left
                    · simp only [Act.put, List.setIfInBounds_toArray, List.set_cons_zero, List.set_cons_succ, i64_w, i32_w]
                      rfl
                    refine one_ (i := 9) (N := none) #[true, true, true, true, true, true, true, true, true, true, false] rfl rfl (one_of HT_.out (by kernel_rfl)) (by decide) (fun K hK => ?_)
                    have hs54 : w53.cell? ⟨gb174, 0, none⟩ = some (.int .i64 0) := (blk_cell BK174.out 0).trans rfl
                    have hfs54 := blk_frozen BK174.out 0
                    have hns54_0 := NB173_174.out
                    have hns54_2 := NB180_174.out
                    have hms54_0 := NB174_173.out
                    have hms54_2 := NB174_180.out
                    have hs55 : w53.cell? ⟨gb174, 1, none⟩ = some (.int .i64 0) := (blk_cell BK174.out 1).trans rfl
                    have hfs55 := blk_frozen BK174.out 1
                    have hns55_0 := NB173_174.out
                    have hns55_2 := NB180_174.out
                    have hms55_0 := NB174_173.out
                    have hms55_2 := NB174_180.out
                    have hs57 : w53.cell? ⟨gb174, 2, none⟩ = some (.slice none 0 0) := (blk_cell BK174.out 2).trans rfl
                    have hfs57 := blk_frozen BK174.out 2
                    have hns57_0 := NB173_174.out
                    have hns57_2 := NB180_174.out
                    have hms57_0 := NB174_173.out
                    have hms57_2 := NB174_180.out
                    refine skip_ (w1 := ?_) (by rfl) rfl ?_ ?_
                    rotate_left
                    · go_simp
                      rfl
                    refine hK.out _ _ ⟨((cell_far (p := ⟨gb174, _, none⟩) NB173_174.out _).trans (((cell_far (p := ⟨gb174, _, none⟩) NB173_174.out _).trans (((cell_far (p := ⟨gb174, _, none⟩) NB173_174.out _).trans (hHeld.1)))))), ((cell_far (p := ⟨gb174, _, none⟩) NB173_174.out _).trans (((cell_far (p := ⟨gb174, _, none⟩) NB173_174.out _).trans (((cell_far (p := ⟨gb174, _, none⟩) NB173_174.out _).trans (hHeld.2.1)))))), ((cell_far (p := ⟨gb174, _, none⟩) NB173_174.out _).trans (((cell_far (p := ⟨gb174, _, none⟩) NB173_174.out _).trans (((cell_far (p := ⟨gb174, _, none⟩) NB173_174.out _).trans (hHeld.2.2.1)))))), ((cell_far (p := ⟨gb174, _, none⟩) NB180_174.out _).trans (((cell_far (p := ⟨gb174, _, none⟩) NB180_174.out _).trans (((cell_far (p := ⟨gb174, _, none⟩) NB180_174.out _).trans (hHeld.2.2.2.1)))))), ((cell_far (p := ⟨gb174, _, none⟩) NB180_174.out _).trans (((cell_far (p := ⟨gb174, _, none⟩) NB180_174.out _).trans (((cell_far (p := ⟨gb174, _, none⟩) NB180_174.out _).trans (hHeld.2.2.2.2.1)))))), ((cell_far (p := ⟨gb174, _, none⟩) NB180_174.out _).trans (((cell_far (p := ⟨gb174, _, none⟩) NB180_174.out _).trans (((cell_far (p := ⟨gb174, _, none⟩) NB180_174.out _).trans (hHeld.2.2.2.2.2))))))⟩ (fun hHeld => ?_)
                    clear hK K
                    refine pure_ (i := 10) (N := some 5) (v := ?_) (a' := ?_) #[true, true, true, true, true, true, true, true, true, true, true] rfl rfl (any_of HT_.out (by kernel_rfl)) (fun _ _ _ h => h) (Or.inl ⟨by rfl, ?_⟩) ?_ ?_
                    rotate_left
                    · intro w'
                      go_simp
                      with_reducible rfl
                    rotate_left
                    · simp only [Act.put, List.setIfInBounds_toArray, List.set_cons_zero, List.set_cons_succ, i64_w, i32_w]
                      rfl
                    refine done_ (done_of HT_.out (by kernel_rfl)) ?_
                    try go_wp2
                    refine bodyPost_ret (results_ct rfl _ _ gb174 24 #[.int .i64 t206, .int .i64 t207, .slice Ao56 t208.length co56] (0, 0) _ rfl (by (with_reducible repeat (first | apply kN_ | apply kD_ | apply kA_)); refine blk_put (cs := #[.int .i64 t206, .int .i64 t207, .slice none 0 0]) ?_ 2 _ rfl; (with_reducible repeat (first | apply kN_ | apply kD_ | apply kA_)); refine blk_put (cs := #[.int .i64 t206, .int .i64 0, .slice none 0 0]) ?_ 1 _ rfl; (with_reducible repeat (first | apply kN_ | apply kD_ | apply kA_)); refine blk_put (cs := #[.int .i64 0, .int .i64 0, .slice none 0 0]) ?_ 0 _ rfl; (with_reducible repeat (first | apply kN_ | apply kD_ | apply kA_)); exact BK174.out) Try.underlying24 rfl (by kernel_rfl)) rfl ?_
                    exact ⟨_, by first | rfl | (simp [errW_none, errW_some] <;> rfl) | (simp [*, errW_none, errW_some] <;> rfl), by (with_reducible repeat (first | apply rA_ | apply rN_ | apply rD_)); exact Kd.R_mono (Kd.R_far (p := ⟨gb174, 2, none⟩) (Kd.R_far (p := ⟨gb174, 1, none⟩) (Kd.R_far (p := ⟨gb174, 0, none⟩) (Kd.R_types HO210.out BK174.out (by decide)) (fun _ hk => hk.2) (.int .i64 t206)) (fun _ hk => hk.2) (.int .i64 t207)) (fun _ hk => hk.2) (.slice Ao56 t208.length co56)) (fun _ hk => trivial), by repeat (first | (with_reducible first | exact HB.out | apply bA_ | apply bN_ | apply bD_ | refine bS_ ?_ GE173.out | refine bS_ ?_ GE174.out | refine bS_ ?_ GE180.out) | exact HB.out)⟩
                  · rw [if_neg c26] at H
                    exact absurd H (by simp)
                · rw [if_neg c23] at H
                  exact absurd H (by simp)
              · rw [if_neg c22] at H
                exact absurd H (by simp)
            · rw [if_neg c21] at H
              exact absurd H (by simp)
        · rw [if_neg c15] at H
          exact absurd H (by simp)
      · rw [if_neg c14] at H
        have c14b0 : decide (x7_1 < (l0_2.length : Int)) = false := decide_eq_false c14
        clear c14
        obtain ⟨y212, hy212⟩ : ∃ y_ : List (S48), y_ = (([] : List (S48))) := ⟨_, rfl⟩
        replace H : (if 0 ≤ x7_1 then (if x7_1 ≤ (l0_2.length : Int) then ((some (l0_2.take (x7_1 : Int).toNat : List (S48))).bind fun y215 => (if y212.length + y215.length < 8796093022208 then ((some (y212 ++ y215 : List (S48))).bind fun y219 => ((some (([(⟨a1, a0_1⟩ : S48)] : List (S48)) : List (S48))).bind fun y222 => (if y219.length + y222.length < 8796093022208 then ((some (y219 ++ y222 : List (S48))).bind fun y225 => ((some (l0_2.drop (x7_1 : Int).toNat : List (S48))).bind fun y228 => (if y225.length + y228.length < 8796093022208 then ((spec_l10At.f k1 a0_0 a0_1 l0_2 a1).bind fun t235 => ((spec_l10Ends.f k1 a0_0 a0_1 l0_2 t175 t176 (y225 ++ y228) (decide (t235 < 0))).bind fun bt236 => (some (bt236.1, bt236.2.1, bt236.2.2.1, bt236.2.2.2)))) else (none)))) else (none)))) else (none))) else (none)) else (none)) = some (r1, r2, r3, r4) := by first | (rw [hy212]; with_reducible exact H) | (have H2_ := (Option.bind_some _ _).symm.trans H; rw [hy212]; with_reducible exact H2_) | (have H2_ := (Option.bind_some _ _).symm.trans H; with_reducible exact H2_) | with_reducible exact H | (rw [hy212]; exact H) | exact H
        have Ny212 := Aside0.mk hy212
        clear hy212
        by_cases c58 : 0 ≤ x7_1
        · rw [if_pos c58] at H
          have c58b0 := eq_true c58
          have c58b1 : decide (0 ≤ x7_1) = true := decide_eq_true c58
          clear c58
          by_cases c59 : x7_1 ≤ (l0_2.length : Int)
          · rw [if_pos c59] at H
            have c59b0 := eq_true c59
            have c59b1 : decide (x7_1 ≤ (l0_2.length : Int)) = true := decide_eq_true c59
            clear c59
            obtain ⟨y215, hy215⟩ : ∃ y_ : List (S48), y_ = (l0_2.take (x7_1 : Int).toNat) := ⟨_, rfl⟩
            replace H : (if y212.length + y215.length < 8796093022208 then ((some (y212 ++ y215 : List (S48))).bind fun y219 => ((some (([(⟨a1, a0_1⟩ : S48)] : List (S48)) : List (S48))).bind fun y222 => (if y219.length + y222.length < 8796093022208 then ((some (y219 ++ y222 : List (S48))).bind fun y225 => ((some (l0_2.drop (x7_1 : Int).toNat : List (S48))).bind fun y228 => (if y225.length + y228.length < 8796093022208 then ((spec_l10At.f k1 a0_0 a0_1 l0_2 a1).bind fun t235 => ((spec_l10Ends.f k1 a0_0 a0_1 l0_2 t175 t176 (y225 ++ y228) (decide (t235 < 0))).bind fun bt236 => (some (bt236.1, bt236.2.1, bt236.2.2.1, bt236.2.2.2)))) else (none)))) else (none)))) else (none)) = some (r1, r2, r3, r4) := by first | (rw [hy215]; with_reducible exact H) | (have H2_ := (Option.bind_some _ _).symm.trans H; rw [hy215]; with_reducible exact H2_) | (have H2_ := (Option.bind_some _ _).symm.trans H; with_reducible exact H2_) | with_reducible exact H | (rw [hy215]; exact H) | exact H
            have Ny215 := Aside0.mk hy215
            clear hy215
            by_cases c60 : y212.length + y215.length < 8796093022208
            · rw [if_pos c60] at H
              have LMc60 := Aside0.mk c60
              clear c60
              obtain ⟨y219, hy219⟩ : ∃ y_ : List (S48), y_ = (y212 ++ y215) := ⟨_, rfl⟩
              replace H : ((some (([(⟨a1, a0_1⟩ : S48)] : List (S48)) : List (S48))).bind fun y222 => (if y219.length + y222.length < 8796093022208 then ((some (y219 ++ y222 : List (S48))).bind fun y225 => ((some (l0_2.drop (x7_1 : Int).toNat : List (S48))).bind fun y228 => (if y225.length + y228.length < 8796093022208 then ((spec_l10At.f k1 a0_0 a0_1 l0_2 a1).bind fun t235 => ((spec_l10Ends.f k1 a0_0 a0_1 l0_2 t175 t176 (y225 ++ y228) (decide (t235 < 0))).bind fun bt236 => (some (bt236.1, bt236.2.1, bt236.2.2.1, bt236.2.2.2)))) else (none)))) else (none))) = some (r1, r2, r3, r4) := by first | (rw [hy219]; with_reducible exact H) | (have H2_ := (Option.bind_some _ _).symm.trans H; rw [hy219]; with_reducible exact H2_) | (have H2_ := (Option.bind_some _ _).symm.trans H; with_reducible exact H2_) | with_reducible exact H | (rw [hy219]; exact H) | exact H
              have Ny219 := Aside0.mk hy219
              clear hy219
              obtain ⟨y222, hy222⟩ : ∃ y_ : List (S48), y_ = (([(⟨a1, a0_1⟩ : S48)] : List (S48))) := ⟨_, rfl⟩
              replace H : (if y219.length + y222.length < 8796093022208 then ((some (y219 ++ y222 : List (S48))).bind fun y225 => ((some (l0_2.drop (x7_1 : Int).toNat : List (S48))).bind fun y228 => (if y225.length + y228.length < 8796093022208 then ((spec_l10At.f k1 a0_0 a0_1 l0_2 a1).bind fun t235 => ((spec_l10Ends.f k1 a0_0 a0_1 l0_2 t175 t176 (y225 ++ y228) (decide (t235 < 0))).bind fun bt236 => (some (bt236.1, bt236.2.1, bt236.2.2.1, bt236.2.2.2)))) else (none)))) else (none)) = some (r1, r2, r3, r4) := by first | (rw [hy222]; with_reducible exact H) | (have H2_ := (Option.bind_some _ _).symm.trans H; rw [hy222]; with_reducible exact H2_) | (have H2_ := (Option.bind_some _ _).symm.trans H; with_reducible exact H2_) | with_reducible exact H | (rw [hy222]; exact H) | exact H
              have Ny222 := Aside0.mk hy222
              clear hy222
              by_cases c61 : y219.length + y222.length < 8796093022208
              · rw [if_pos c61] at H
                have LMc61 := Aside0.mk c61
                clear c61
                obtain ⟨y225, hy225⟩ : ∃ y_ : List (S48), y_ = (y219 ++ y222) := ⟨_, rfl⟩
                replace H : ((some (l0_2.drop (x7_1 : Int).toNat : List (S48))).bind fun y228 => (if y225.length + y228.length < 8796093022208 then ((spec_l10At.f k1 a0_0 a0_1 l0_2 a1).bind fun t235 => ((spec_l10Ends.f k1 a0_0 a0_1 l0_2 t175 t176 (y225 ++ y228) (decide (t235 < 0))).bind fun bt236 => (some (bt236.1, bt236.2.1, bt236.2.2.1, bt236.2.2.2)))) else (none))) = some (r1, r2, r3, r4) := by first | (rw [hy225]; with_reducible exact H) | (have H2_ := (Option.bind_some _ _).symm.trans H; rw [hy225]; with_reducible exact H2_) | (have H2_ := (Option.bind_some _ _).symm.trans H; with_reducible exact H2_) | with_reducible exact H | (rw [hy225]; exact H) | exact H
                have Ny225 := Aside0.mk hy225
                clear hy225
                have c62b0 := eq_true (of_decide_eq_true (by first | (with_reducible assumption) | assumption) : 0 ≤ x7_1)
                have c63b0 := eq_true (of_decide_eq_true (by first | (with_reducible assumption) | assumption) : x7_1 ≤ (l0_2.length : Int))
                obtain ⟨y228, hy228⟩ : ∃ y_ : List (S48), y_ = (l0_2.drop (x7_1 : Int).toNat) := ⟨_, rfl⟩
                replace H : (if y225.length + y228.length < 8796093022208 then ((spec_l10At.f k1 a0_0 a0_1 l0_2 a1).bind fun t235 => ((spec_l10Ends.f k1 a0_0 a0_1 l0_2 t175 t176 (y225 ++ y228) (decide (t235 < 0))).bind fun bt236 => (some (bt236.1, bt236.2.1, bt236.2.2.1, bt236.2.2.2)))) else (none)) = some (r1, r2, r3, r4) := by first | (rw [hy228]; with_reducible exact H) | (have H2_ := (Option.bind_some _ _).symm.trans H; rw [hy228]; with_reducible exact H2_) | (have H2_ := (Option.bind_some _ _).symm.trans H; with_reducible exact H2_) | with_reducible exact H | (rw [hy228]; exact H) | exact H
                have Ny228 := Aside0.mk hy228
                clear hy228
                by_cases c64 : y225.length + y228.length < 8796093022208
                · rw [if_pos c64] at H
                  have LMc64 := Aside0.mk c64
                  clear c64
                  obtain ⟨y232, hy232⟩ : ∃ y_ : List (S48), y_ = (y225 ++ y228) := ⟨_, rfl⟩
                  replace H : ((spec_l10At.f k1 a0_0 a0_1 l0_2 a1).bind fun t235 => ((spec_l10Ends.f k1 a0_0 a0_1 l0_2 t175 t176 y232 (decide (t235 < 0))).bind fun bt236 => (some (bt236.1, bt236.2.1, bt236.2.2.1, bt236.2.2.2)))) = some (r1, r2, r3, r4) := by first | (rw [hy232]; with_reducible exact H) | (have H2_ := (Option.bind_some _ _).symm.trans H; rw [hy232]; with_reducible exact H2_) | (have H2_ := (Option.bind_some _ _).symm.trans H; with_reducible exact H2_) | with_reducible exact H | (rw [hy232]; exact H) | exact H
                  have Ny232 := Aside0.mk hy232
                  clear hy232
                  replace H := Option.bind_eq_some_iff.mp H
                  obtain ⟨t235, A650, H⟩ := H
                  replace H : ((spec_l10Ends.f k1 a0_0 a0_1 l0_2 t175 t176 y232 (decide (t235 < 0))).bind fun bt236 => (some (bt236.1, bt236.2.1, bt236.2.2.1, bt236.2.2.2))) = some (r1, r2, r3, r4) := H
                  have A65 := Aside0.mk A650
                  clear A650
                  replace H := Option.bind_eq_some_iff.mp H
                  obtain ⟨⟨t236, t237, t238, t241⟩, A660, H⟩ := H
                  replace H : (some (t236, t237, t238, t241)) = some (r1, r2, r3, r4) := H
                  have A66 := Aside0.mk A660
                  clear A660
                  simp only [Option.some.injEq, Prod.mk.injEq] at H
                  obtain ⟨rfl, rfl, rfl, rfl⟩ := H
                  have hnb67 := NB173_174.out
                  have hnc67 := NB174_173.out
                  have hnb68 := NB173_180.out
                  have hnc68 := NB180_173.out
                  obtain ⟨hcz69_0, hcz69_1, hcz69_2, hfz69_0, hfz69_1, hfz69_2⟩ := blk_all3 BK173.out
                  try go_wp2
                  replace HO_181002 := As_ (Kd.R_drew HO_181002.out)
                  replace BK173 := As_ (blk_drew BK173.out)
                  replace BK174 := As_ (blk_drew BK174.out)
                  replace BK180 := As_ (blk_drew BK180.out)
                  replace HB := As_ (below_drew1 HB.out)
                  have q71 : (x7_1 : Int) ≤ ((l0_2.length : Int) : Int) := of_decide_eq_true (by first | (with_reducible assumption) | assumption)
                  obtain ⟨i071, hi071, _, hsz71, _⟩ := info_parts info48
                  have hroom71 : l0_2.length ≤ c0_2 := HC0_2.out
                  have hC71 : Kd.C k48 _ A0_2 l0_2.length l0_2 := HR0_2.out
                  have hcut71 := cut_to (P := Try.prog) 22 48 .i64 Try.underlying22 hi071 A0_2 l0_2.length c0_2 x7_1 (of_decide_eq_true (by first | (with_reducible assumption) | assumption)) q71 hroom71
                  have hr71 := Kd.C_take (m := (x7_1 : Int).toNat) hC71 (by omega)
                  have hy71 : y215.length = (x7_1 : Int).toNat := (by rw [Ny215.out, List.length_take]; omega)
                  rw [← Ny215.out] at hr71
                  rw [← hy71] at hcut71
                  have HR218 := Aside0.mk hr71
                  have HC218 := As_ (show y215.length ≤ c0_2 from by omega)
                  clear hr71 hC71 hroom71 hi071 hsz71
                  have KY71 := Aside0.mk hy71
                  clear hy71
                  replace q71 := eq_true q71
                  refine start_ (n := 14) (S := fun w' => w'.cell? ⟨gb173, 0, none⟩ = some (.int .i64 a0_0) ∧ w'.cell? ⟨gb173, 1, none⟩ = some (.int .i64 a0_1) ∧ w'.cell? ⟨gb173, 2, none⟩ = some (.slice A0_2 l0_2.length c0_2)) (ds := []) #[false, false, false, false, false, false, false, false, false, false, false, false, false, false] (by kernel_rfl) rfl rfl ⟨(blk_cell BK173.out 0).trans rfl, (blk_cell BK173.out 1).trans rfl, (blk_cell BK173.out 2).trans rfl⟩ (fun hHeld => ?_); refine with_tabW spec_OpenLane.tab5 spec_OpenLane.bits5 (fun HT_ HW_ => ?_)
                  generalize wr.drew = w70 at HO_181002 BK173 BK174 BK180 HB HR218 hHeld ⊢
                  refine pure_ (i := 1) (N := some 28) (v := ?_) (a' := ?_) #[false, true, false, false, false, false, false, false, false, false, false, false, false, false] rfl rfl (any_of HT_.out (by kernel_rfl)) (fun _ _ _ h => h) (Or.inl ⟨by rfl, ?_⟩) ?_ ?_
                  rotate_left
                  · intro w'
                    go_simp
                    with_reducible rfl
                  rotate_left
                  · simp only [Act.put, List.setIfInBounds_toArray, List.set_cons_zero, List.set_cons_succ, i64_w, i32_w]
                    rfl
                  refine pure_ (i := 3) (N := some 30) (v := ?_) (a' := ?_) #[false, true, false, true, false, false, false, false, false, false, false, false, false, false] rfl rfl (any_of HT_.out (by kernel_rfl)) (fun _ _ _ h => h) (Or.inl ⟨by rfl, ?_⟩) ?_ ?_
                  rotate_left
                  · intro w'
                    go_simp
                    with_reducible rfl
                  rotate_left
                  · simp only [Act.put, List.setIfInBounds_toArray, List.set_cons_zero, List.set_cons_succ, i64_w, i32_w]
                    rfl
                  refine pure_ (i := 6) (N := some 33) (v := ?_) (a' := ?_) #[false, true, false, true, false, false, true, false, false, false, false, false, false, false] rfl rfl (any_of HT_.out (by kernel_rfl)) (fun _ _ _ h => h) (Or.inl ⟨by rfl, ?_⟩) ?_ ?_
                  rotate_left
                  · intro w'
                    go_simp
                    with_reducible rfl
                  rotate_left
                  · simp only [Act.put, List.setIfInBounds_toArray, List.set_cons_zero, List.set_cons_succ, i64_w, i32_w]
                    rfl
                  refine pure_ (i := 7) (N := some 34) (v := ?_) (a' := ?_) #[false, true, false, true, false, false, true, true, false, false, false, false, false, false] rfl rfl (any_of HT_.out (by kernel_rfl)) (fun _ _ _ h => h) (Or.inl ⟨by rfl, ?_⟩) ?_ ?_
                  rotate_left
                  · intro w'
                    go_simp
                    with_reducible rfl
                  rotate_left
                  · simp only [Act.put, List.setIfInBounds_toArray, List.set_cons_zero, List.set_cons_succ, i64_w, i32_w]
                    rfl
                  refine take_ (i := 2) (N := some 29) (v := ?_) (a' := ?_) #[false, true, true, true, false, false, true, true, false, false, false, false, false, false] rfl rfl (take_ofW HT_.out HW_.out (by kernel_rfl)) (fun _ _ _ h => h) (Or.inl ⟨by rfl, ?_⟩) hHeld ?_ ?_
                  rotate_left
                  · rintro w' ⟨s0, s1, s2⟩
                    go_simp
                    with_reducible rfl
                  rotate_left
                  · simp only [Act.put, List.setIfInBounds_toArray, List.set_cons_zero, List.set_cons_succ, i64_w, i32_w]
                    rfl
                  refine pure_ (i := 4) (N := some 31) (v := ?_) (a' := ?_) #[false, true, true, true, true, false, true, true, false, false, false, false, false, false] rfl rfl (any_of HT_.out (by kernel_rfl)) (fun _ _ _ h => h) (Or.inl ⟨by rfl, ?_⟩) ?_ ?_
                  rotate_left
                  · intro w'
                    go_simp
                    with_reducible rfl
                  rotate_left
                  · simp only [Act.put, List.setIfInBounds_toArray, List.set_cons_zero, List.set_cons_succ, i64_w, i32_w]
                    rfl
                  refine take_ (i := 8) (N := some 35) (v := ?_) (a' := ?_) #[false, true, true, true, true, false, true, true, true, false, false, false, false, false] rfl rfl (take_ofW HT_.out HW_.out (by kernel_rfl)) (fun _ _ _ h => h) (Or.inl ⟨by rfl, ?_⟩) hHeld ?_ ?_
                  rotate_left
                  · rintro w' ⟨s0, s1, s2⟩
                    go_simp
                    with_reducible rfl
                  rotate_left
                  · simp only [Act.put, List.setIfInBounds_toArray, List.set_cons_zero, List.set_cons_succ, i64_w, i32_w]
                    rfl
                  refine pure_ (i := 9) (N := some 36) (v := ?_) (a' := ?_) #[false, true, true, true, true, false, true, true, true, true, false, false, false, false] rfl rfl (any_of HT_.out (by kernel_rfl)) (fun _ _ _ h => h) (Or.inl ⟨by rfl, ?_⟩) ?_ ?_
                  rotate_left
                  · intro w'
                    go_simp
                    with_reducible rfl
                  rotate_left
                  · simp only [Act.put, List.setIfInBounds_toArray, List.set_cons_zero, List.set_cons_succ, i64_w, i32_w]
                    rfl
                  refine join_ (σ := Value × Value × Value) 3 #[true, true, true, true, true, true, true, true, true, true, true, false, false, false] (fun s_ => [(27, s_.1), (32, s_.2.1), (37, s_.2.2)]) (fun s_ w' => (w'.cell? ⟨gb173, 0, none⟩ = some (.int .i64 a0_0) ∧ w'.cell? ⟨gb173, 1, none⟩ = some (.int .i64 a0_1) ∧ w'.cell? ⟨gb173, 2, none⟩ = some (.slice A0_2 l0_2.length c0_2)) ∧ (Kd.R k48 48 w' w.heap.size (fun k_ => some k_ ≠ (s_.2.2 : Value).ownBlock ∧ some k_ ≠ (.slice Ao13 t177.length co13 : Value).ownBlock) s_.2.1 y219) ∧ (Kd.R k48 48 w' w.heap.size (fun k_ => some k_ ≠ (s_.2.1 : Value).ownBlock ∧ some k_ ≠ (.slice Ao13 t177.length co13 : Value).ownBlock) s_.2.2 y222) ∧ (Kd.R k48 48 w' w.heap.size (fun k_ => some k_ ≠ (s_.2.1 : Value).ownBlock ∧ some k_ ≠ (s_.2.2 : Value).ownBlock) (.slice Ao13 t177.length co13) t177) ∧ (w'.heap[gb173]? = some (.cells #[.int .i64 a0_0, .int .i64 a0_1, .slice A0_2 l0_2.length c0_2] 24 (0, 0))) ∧ (w'.heap[gb174]? = some (.cells #[.int .i64 0, .int .i64 0, .slice none 0 0] 24 (0, 0))) ∧ (w'.heap[gb180]? = some (.cells #[.int .i64 t175, .int .i64 t176, .slice Ao13 t177.length co13] 24 (0, 0))) ∧ (Below w.heap.size w w')) ?_ ?_
                  rotate_left
                  · intro hCont
                    refine two_ (i := 0) (j := 10) (Ni := some 27) (Nj := some 37) #[true, true, true, true, true, false, true, true, true, true, false, false, false, false] #[false, true, true, true, true, false, true, true, true, true, true, false, false, false] rfl rfl rfl rfl (two_of HT_.out (by kernel_rfl)) (by decide) (by decide) (fun K hK => ?_) (fun K hK => ?_)
                    · skip
                      refine Kd.R_lit_step k48 _ 48 ?hg (N := 27) ?hd (xs := ([] : List (S48))) (inner := []) (ok := fun _ => True) (okp := fun _ => True) ?hr ?hp (fun _ hk => hk) trivial (Below.refl _ _) (Nat.le_refl _) (by simp) ?_; (case hd => rfl); (case hg => rfl); (case hr => first | (go_simp; done) | (go_simp; rfl)); (case hp => exact (Reps.none _ _))
                      intro v213 w72 ho73 hb hg_ hnew_
                      clear hg_ hnew_
                      (first | rw [← Ny212.out] at ho73 | (simp only [Int.reduceToNat] at ho73; rw [← Ny212.out] at ho73))
                      have n0_ := As_ (Kd.R_elder' (by (with_reducible repeat (first | apply rA_ | apply rN_ | apply rD_)); exact HO_181002.out) (Kd.R_base ho73) hb)
                      have n1_ := As_ (Kd.R_lower (Kd.R_new' ho73 (Kd.R_lt (by (with_reducible repeat (first | apply rA_ | apply rN_ | apply rD_)); exact HO_181002.out))) (below_size (by repeat (first | (with_reducible first | exact HB.out | apply bA_ | apply bN_ | apply bD_ | refine bS_ ?_ GE173.out | refine bS_ ?_ GE174.out | refine bS_ ?_ GE180.out) | exact HB.out))))
                      have n2_ := As_ (blk_below (g := gb173) (o := .cells #[.int .i64 a0_0, .int .i64 a0_1, .slice A0_2 l0_2.length c0_2] 24 (0, 0)) (by (with_reducible repeat (first | apply kN_ | apply kD_ | apply kA_)); exact BK173.out) hb)
                      have n3_ := As_ (blk_below (g := gb174) (o := .cells #[.int .i64 0, .int .i64 0, .slice none 0 0] 24 (0, 0)) (by (with_reducible repeat (first | apply kN_ | apply kD_ | apply kA_)); exact BK174.out) hb)
                      have n4_ := As_ (blk_below (g := gb180) (o := .cells #[.int .i64 t175, .int .i64 t176, .slice Ao13 t177.length co13] 24 (0, 0)) (by (with_reducible repeat (first | apply kN_ | apply kD_ | apply kA_)); exact BK180.out) hb)
                      have n5_ := As_ (below_step (by repeat (first | (with_reducible first | exact HB.out | apply bA_ | apply bN_ | apply bD_ | refine bS_ ?_ GE173.out | refine bS_ ?_ GE174.out | refine bS_ ?_ GE180.out) | exact HB.out)) hb)
                      clear HO_181002 BK173 BK174 BK180 HB
                      have HO_181002 := n0_
                      have HO214 := n1_
                      have BK173 := n2_
                      have BK174 := n3_
                      have BK180 := n4_
                      have HB := n5_
                      clear n0_ n1_ n2_ n3_ n4_ n5_ hb ho73
                      refine hK.out _ _ ⟨(blk_cell BK173.out 0).trans rfl, (blk_cell BK173.out 1).trans rfl, (blk_cell BK173.out 2).trans rfl⟩ (fun hHeld => ?_)
                      clear hK K
                      refine norm_ (a' := ?_) ?_ ?_
                      rotate_left
                      · show Act.put _ (some 27) _ = _
                        simp only [Act.put, List.setIfInBounds_toArray, List.set_cons_zero, List.set_cons_succ, i64_w, i32_w]
                        rfl
                      refine two_ (i := 5) (j := 10) (Ni := some 32) (Nj := some 37) #[true, true, true, true, true, true, true, true, true, true, false, false, false, false] #[true, true, true, true, true, false, true, true, true, true, true, false, false, false] rfl rfl rfl rfl (two_of HT_.out (by kernel_rfl)) (by decide) (by decide) (fun K hK => ?_) (fun K hK => ?_)
                      · skip
                        refine Kd.R_append_rows_step k48 (w0 := w) w.heap.size (by rfl) (.tmp 27) (.tmp 31) 22 48 (.agg #[(.int .i64 0), (.int .i64 0)]) 16 rfl Try.underlying22 info48 rfl (by decide) (by omega) v213 y212 y215 _ _ _ (fun k_ => some k_ ≠ (.slice Ao13 t177.length co13 : Value).ownBlock) (fun _ => False) rfl rfl ?aO ?aR (fun _ _ h => h) (fun _ h => h.elim) ?aF ?aB ?aS ?aL ?_
                        (case aR => repeat (first | exact (Kd.C_below HR218.out HB.out) | (with_reducible first | apply cA_ | apply cN_ | apply cD_)))
                        (case aB => exact (by repeat (first | (with_reducible first | exact HB.out | apply bA_ | apply bN_ | apply bD_ | refine bS_ ?_ GE173.out | refine bS_ ?_ GE174.out | refine bS_ ?_ GE180.out) | exact HB.out)))
                        (case aF => exact (fun k_ hk => Kd.fresh' (Kd.R_lt (by (with_reducible repeat (first | apply rA_ | apply rN_ | apply rD_)); exact HO_181002.out)) k_ hk))
                        (case aO => exact (by (with_reducible repeat (first | apply rA_ | apply rN_ | apply rD_)); exact Kd.R_mono HO214.out (fun _ hk => hk.2)))
                        (case aS => exact (below_size (by repeat (first | (with_reducible first | exact HB.out | apply bA_ | apply bN_ | apply bD_ | refine bS_ ?_ GE173.out | refine bS_ ?_ GE174.out | refine bS_ ?_ GE180.out) | exact HB.out))))
                        (case aL => have := LMc60.out; omega)
                        intro v220 w74 ho hb hg hat
                        rw [← Ny219.out] at ho
                        have n0_ := As_ (Kd.R_after (ok := (fun _ => True)) (by (with_reducible repeat (first | apply rA_ | apply rN_ | apply rD_)); exact HO_181002.out) hg hat)
                        have n1_ := As_ (blk_grown (g := gb173) (o := .cells #[.int .i64 a0_0, .int .i64 a0_1, .slice A0_2 l0_2.length c0_2] 24 (0, 0)) (by (with_reducible repeat (first | apply kN_ | apply kD_ | apply kA_)); exact BK173.out) hg (Kd.R_ne HO214.out BK173.out (by decide)))
                        have n2_ := As_ (blk_grown (g := gb174) (o := .cells #[.int .i64 0, .int .i64 0, .slice none 0 0] 24 (0, 0)) (by (with_reducible repeat (first | apply kN_ | apply kD_ | apply kA_)); exact BK174.out) hg (Kd.R_ne HO214.out BK174.out (by decide)))
                        have n3_ := As_ (blk_grown (g := gb180) (o := .cells #[.int .i64 t175, .int .i64 t176, .slice Ao13 t177.length co13] 24 (0, 0)) (by (with_reducible repeat (first | apply kN_ | apply kD_ | apply kA_)); exact BK180.out) hg (Kd.R_ne HO214.out BK180.out (by decide)))
                        have n4_ := As_ (hb)
                        have n5_ := As_ (ho)
                        clear HO_181002 BK173 BK174 BK180 HB HO214
                        have HO_181002 := n0_
                        have BK173 := n1_
                        have BK174 := n2_
                        have BK180 := n3_
                        have HB := n4_
                        have HO221 := n5_
                        clear n0_ n1_ n2_ n3_ n4_ n5_ ho hb hg hat
                        refine hK.out _ _ ⟨(blk_cell BK173.out 0).trans rfl, (blk_cell BK173.out 1).trans rfl, (blk_cell BK173.out 2).trans rfl⟩ (fun hHeld => ?_)
                        clear hK K
                        refine norm_ (a' := ?_) ?_ ?_
                        rotate_left
                        · show Act.put _ (some 32) _ = _
                          simp only [Act.put, List.setIfInBounds_toArray, List.set_cons_zero, List.set_cons_succ, i64_w, i32_w]
                          rfl
                        refine one_ (i := 10) (N := some 37) #[true, true, true, true, true, true, true, true, true, true, true, false, false, false] rfl rfl (one_of HT_.out (by kernel_rfl)) (by decide) (fun K hK => ?_)
                        refine Kd.R_lit_step k48 _ 48 ?hg (N := 37) ?hd (xs := ([(⟨a1, a0_1⟩ : S48)] : List (S48))) (inner := [.int .i64 a1, .int .i64 a0_1]) (ok := fun _ => True) (okp := fun _ => True) ?hr ?hp (fun _ hk => hk) trivial (Below.refl _ _) (Nat.le_refl _) (by simp) ?_; (case hd => rfl); (case hg => rfl); (case hr => first | (go_simp; done) | (go_simp; rfl)); (case hp => exact (Reps.c2 (show Kd.M k48 _ _ _ (⟨a1, a0_1⟩ : S48) [.int .i64 a1, .int .i64 a0_1] from (k48_mkM _ _ _ (⟨a1, a0_1⟩ : S48) )) (Reps.none _ _)))
                        intro v223 w75 ho76 hb hg_ hnew_
                        clear hg_ hnew_
                        (first | rw [← Ny222.out] at ho76 | (simp only [Int.reduceToNat] at ho76; rw [← Ny222.out] at ho76))
                        have n0_ := As_ (Kd.R_elder' (by (with_reducible repeat (first | apply rA_ | apply rN_ | apply rD_)); exact HO_181002.out) (Kd.R_base ho76) hb)
                        have n1_ := As_ (Kd.R_elder' (by (with_reducible repeat (first | apply rA_ | apply rN_ | apply rD_)); exact HO221.out) (Kd.R_base ho76) hb)
                        have n2_ := As_ (Kd.R_lower (Kd.R_new' (Kd.R_new' ho76 (Kd.R_lt (by (with_reducible repeat (first | apply rA_ | apply rN_ | apply rD_)); exact HO_181002.out))) (Kd.R_lt (by (with_reducible repeat (first | apply rA_ | apply rN_ | apply rD_)); exact HO221.out))) (below_size (by repeat (first | (with_reducible first | exact HB.out | apply bA_ | apply bN_ | apply bD_ | refine bS_ ?_ GE173.out | refine bS_ ?_ GE174.out | refine bS_ ?_ GE180.out) | exact HB.out))))
                        have n3_ := As_ (blk_below (g := gb173) (o := .cells #[.int .i64 a0_0, .int .i64 a0_1, .slice A0_2 l0_2.length c0_2] 24 (0, 0)) (by (with_reducible repeat (first | apply kN_ | apply kD_ | apply kA_)); exact BK173.out) hb)
                        have n4_ := As_ (blk_below (g := gb174) (o := .cells #[.int .i64 0, .int .i64 0, .slice none 0 0] 24 (0, 0)) (by (with_reducible repeat (first | apply kN_ | apply kD_ | apply kA_)); exact BK174.out) hb)
                        have n5_ := As_ (blk_below (g := gb180) (o := .cells #[.int .i64 t175, .int .i64 t176, .slice Ao13 t177.length co13] 24 (0, 0)) (by (with_reducible repeat (first | apply kN_ | apply kD_ | apply kA_)); exact BK180.out) hb)
                        have n6_ := As_ (below_step (by repeat (first | (with_reducible first | exact HB.out | apply bA_ | apply bN_ | apply bD_ | refine bS_ ?_ GE173.out | refine bS_ ?_ GE174.out | refine bS_ ?_ GE180.out) | exact HB.out)) hb)
                        clear HO_181002 HO221 BK173 BK174 BK180 HB
                        have HO_181002 := n0_
                        have HO221 := n1_
                        have HO224 := n2_
                        have BK173 := n3_
                        have BK174 := n4_
                        have BK180 := n5_
                        have HB := n6_
                        clear n0_ n1_ n2_ n3_ n4_ n5_ n6_ hb ho76
                        refine hK.out _ _ ⟨(blk_cell BK173.out 0).trans rfl, (blk_cell BK173.out 1).trans rfl, (blk_cell BK173.out 2).trans rfl⟩ (fun hHeld => ?_)
                        clear hK K
                        refine norm_ (a' := ?_) ?_ ?_
                        rotate_left
                        · show Act.put _ (some 37) _ = _
                          simp only [Act.put, List.setIfInBounds_toArray, List.set_cons_zero, List.set_cons_succ, i64_w, i32_w]
                          rfl
                        exact norm_ (by simp only [putAll, Act.put, List.setIfInBounds_toArray, List.set_cons_zero, List.set_cons_succ]) (hCont (v213, v220, v223) _ ⟨hHeld, (by (with_reducible repeat (first | apply rA_ | apply rN_ | apply rD_)); exact Kd.R_mono HO221.out (fun _ hk => ⟨hk.2, hk.1⟩)), (by (with_reducible repeat (first | apply rA_ | apply rN_ | apply rD_)); exact Kd.R_mono HO224.out (fun _ hk => ⟨hk.2, hk.1.2⟩)), (by (with_reducible repeat (first | apply rA_ | apply rN_ | apply rD_)); exact Kd.R_mono HO_181002.out (fun _ hk => ⟨hk.1.2, hk.2⟩)), (by (with_reducible repeat (first | apply kN_ | apply kD_ | apply kA_)); exact BK173.out), (by (with_reducible repeat (first | apply kN_ | apply kD_ | apply kA_)); exact BK174.out), (by (with_reducible repeat (first | apply kN_ | apply kD_ | apply kA_)); exact BK180.out), (by repeat (first | (with_reducible first | exact HB.out | apply bA_ | apply bN_ | apply bD_ | refine bS_ ?_ GE173.out | refine bS_ ?_ GE174.out | refine bS_ ?_ GE180.out) | exact HB.out))⟩)
                      · skip
                        refine Kd.R_lit_step k48 _ 48 ?hg (N := 37) ?hd (xs := ([(⟨a1, a0_1⟩ : S48)] : List (S48))) (inner := [.int .i64 a1, .int .i64 a0_1]) (ok := fun _ => True) (okp := fun _ => True) ?hr ?hp (fun _ hk => hk) trivial (Below.refl _ _) (Nat.le_refl _) (by simp) ?_; (case hd => rfl); (case hg => rfl); (case hr => first | (go_simp; done) | (go_simp; rfl)); (case hp => exact (Reps.c2 (show Kd.M k48 _ _ _ (⟨a1, a0_1⟩ : S48) [.int .i64 a1, .int .i64 a0_1] from (k48_mkM _ _ _ (⟨a1, a0_1⟩ : S48) )) (Reps.none _ _)))
                        intro v223 w74 ho75 hb hg_ hnew_
                        clear hg_ hnew_
                        (first | rw [← Ny222.out] at ho75 | (simp only [Int.reduceToNat] at ho75; rw [← Ny222.out] at ho75))
                        have n0_ := As_ (Kd.R_elder' (by (with_reducible repeat (first | apply rA_ | apply rN_ | apply rD_)); exact HO_181002.out) (Kd.R_base ho75) hb)
                        have n1_ := As_ (Kd.R_elder' (by (with_reducible repeat (first | apply rA_ | apply rN_ | apply rD_)); exact HO214.out) (Kd.R_base ho75) hb)
                        have n2_ := As_ (Kd.R_lower (Kd.R_new' (Kd.R_new' ho75 (Kd.R_lt (by (with_reducible repeat (first | apply rA_ | apply rN_ | apply rD_)); exact HO_181002.out))) (Kd.R_lt (by (with_reducible repeat (first | apply rA_ | apply rN_ | apply rD_)); exact HO214.out))) (below_size (by repeat (first | (with_reducible first | exact HB.out | apply bA_ | apply bN_ | apply bD_ | refine bS_ ?_ GE173.out | refine bS_ ?_ GE174.out | refine bS_ ?_ GE180.out) | exact HB.out))))
                        have n3_ := As_ (blk_below (g := gb173) (o := .cells #[.int .i64 a0_0, .int .i64 a0_1, .slice A0_2 l0_2.length c0_2] 24 (0, 0)) (by (with_reducible repeat (first | apply kN_ | apply kD_ | apply kA_)); exact BK173.out) hb)
                        have n4_ := As_ (blk_below (g := gb174) (o := .cells #[.int .i64 0, .int .i64 0, .slice none 0 0] 24 (0, 0)) (by (with_reducible repeat (first | apply kN_ | apply kD_ | apply kA_)); exact BK174.out) hb)
                        have n5_ := As_ (blk_below (g := gb180) (o := .cells #[.int .i64 t175, .int .i64 t176, .slice Ao13 t177.length co13] 24 (0, 0)) (by (with_reducible repeat (first | apply kN_ | apply kD_ | apply kA_)); exact BK180.out) hb)
                        have n6_ := As_ (below_step (by repeat (first | (with_reducible first | exact HB.out | apply bA_ | apply bN_ | apply bD_ | refine bS_ ?_ GE173.out | refine bS_ ?_ GE174.out | refine bS_ ?_ GE180.out) | exact HB.out)) hb)
                        clear HO_181002 HO214 BK173 BK174 BK180 HB
                        have HO_181002 := n0_
                        have HO214 := n1_
                        have HO224 := n2_
                        have BK173 := n3_
                        have BK174 := n4_
                        have BK180 := n5_
                        have HB := n6_
                        clear n0_ n1_ n2_ n3_ n4_ n5_ n6_ hb ho75
                        refine hK.out _ _ ⟨(blk_cell BK173.out 0).trans rfl, (blk_cell BK173.out 1).trans rfl, (blk_cell BK173.out 2).trans rfl⟩ (fun hHeld => ?_)
                        clear hK K
                        refine norm_ (a' := ?_) ?_ ?_
                        rotate_left
                        · show Act.put _ (some 37) _ = _
                          simp only [Act.put, List.setIfInBounds_toArray, List.set_cons_zero, List.set_cons_succ, i64_w, i32_w]
                          rfl
                        refine one_ (i := 5) (N := some 32) #[true, true, true, true, true, true, true, true, true, true, true, false, false, false] rfl rfl (one_of HT_.out (by kernel_rfl)) (by decide) (fun K hK => ?_)
                        refine Kd.R_append_rows_step k48 (w0 := w) w.heap.size (by rfl) (.tmp 27) (.tmp 31) 22 48 (.agg #[(.int .i64 0), (.int .i64 0)]) 16 rfl Try.underlying22 info48 rfl (by decide) (by omega) v213 y212 y215 _ _ _ (fun k_ => some k_ ≠ (.slice Ao13 t177.length co13 : Value).ownBlock ∧ some k_ ≠ (v223 : Value).ownBlock) (fun _ => False) rfl rfl ?aO ?aR (fun _ _ h => h) (fun _ h => h.elim) ?aF ?aB ?aS ?aL ?_
                        (case aR => repeat (first | exact (Kd.C_below HR218.out HB.out) | (with_reducible first | apply cA_ | apply cN_ | apply cD_)))
                        (case aB => exact (by repeat (first | (with_reducible first | exact HB.out | apply bA_ | apply bN_ | apply bD_ | refine bS_ ?_ GE173.out | refine bS_ ?_ GE174.out | refine bS_ ?_ GE180.out) | exact HB.out)))
                        (case aF => exact (fun k_ hk => ⟨Kd.fresh' (Kd.R_lt (by (with_reducible repeat (first | apply rA_ | apply rN_ | apply rD_)); exact HO_181002.out)) k_ hk, Kd.fresh' (Kd.R_lt (by (with_reducible repeat (first | apply rA_ | apply rN_ | apply rD_)); exact HO224.out)) k_ hk⟩))
                        (case aO => exact (by (with_reducible repeat (first | apply rA_ | apply rN_ | apply rD_)); exact Kd.R_mono HO214.out (fun _ hk => ⟨hk.1.2, hk.2⟩)))
                        (case aS => exact (below_size (by repeat (first | (with_reducible first | exact HB.out | apply bA_ | apply bN_ | apply bD_ | refine bS_ ?_ GE173.out | refine bS_ ?_ GE174.out | refine bS_ ?_ GE180.out) | exact HB.out))))
                        (case aL => have := LMc60.out; omega)
                        intro v220 w76 ho hb hg hat
                        rw [← Ny219.out] at ho
                        have n0_ := As_ (Kd.R_after (ok := (fun k_ => some k_ ≠ (v223 : Value).ownBlock)) (by (with_reducible repeat (first | apply rA_ | apply rN_ | apply rD_)); exact Kd.R_mono HO_181002.out (fun _ hk => ⟨hk.2, hk.1.2⟩)) hg hat)
                        have n1_ := As_ (blk_grown (g := gb173) (o := .cells #[.int .i64 a0_0, .int .i64 a0_1, .slice A0_2 l0_2.length c0_2] 24 (0, 0)) (by (with_reducible repeat (first | apply kN_ | apply kD_ | apply kA_)); exact BK173.out) hg (Kd.R_ne HO214.out BK173.out (by decide)))
                        have n2_ := As_ (blk_grown (g := gb174) (o := .cells #[.int .i64 0, .int .i64 0, .slice none 0 0] 24 (0, 0)) (by (with_reducible repeat (first | apply kN_ | apply kD_ | apply kA_)); exact BK174.out) hg (Kd.R_ne HO214.out BK174.out (by decide)))
                        have n3_ := As_ (blk_grown (g := gb180) (o := .cells #[.int .i64 t175, .int .i64 t176, .slice Ao13 t177.length co13] 24 (0, 0)) (by (with_reducible repeat (first | apply kN_ | apply kD_ | apply kA_)); exact BK180.out) hg (Kd.R_ne HO214.out BK180.out (by decide)))
                        have n4_ := As_ (Kd.R_after (ok := (fun k_ => some k_ ≠ (.slice Ao13 t177.length co13 : Value).ownBlock)) (by (with_reducible repeat (first | apply rA_ | apply rN_ | apply rD_)); exact Kd.R_mono HO224.out (fun _ hk => ⟨hk.1.2, hk.2⟩)) hg hat)
                        have n5_ := As_ (hb)
                        have n6_ := As_ (ho)
                        clear HO_181002 BK173 BK174 BK180 HO224 HB HO214
                        have HO_181002 := n0_
                        have BK173 := n1_
                        have BK174 := n2_
                        have BK180 := n3_
                        have HO224 := n4_
                        have HB := n5_
                        have HO221 := n6_
                        clear n0_ n1_ n2_ n3_ n4_ n5_ n6_ ho hb hg hat
                        refine hK.out _ _ ⟨(blk_cell BK173.out 0).trans rfl, (blk_cell BK173.out 1).trans rfl, (blk_cell BK173.out 2).trans rfl⟩ (fun hHeld => ?_)
                        clear hK K
                        refine norm_ (a' := ?_) ?_ ?_
                        rotate_left
                        · show Act.put _ (some 32) _ = _
                          simp only [Act.put, List.setIfInBounds_toArray, List.set_cons_zero, List.set_cons_succ, i64_w, i32_w]
                          rfl
                        exact norm_ (by simp only [putAll, Act.put, List.setIfInBounds_toArray, List.set_cons_zero, List.set_cons_succ]) (hCont (v213, v220, v223) _ ⟨hHeld, (by (with_reducible repeat (first | apply rA_ | apply rN_ | apply rD_)); exact Kd.R_mono HO221.out (fun _ hk => ⟨hk.2, hk.1⟩)), (by (with_reducible repeat (first | apply rA_ | apply rN_ | apply rD_)); exact Kd.R_mono HO224.out (fun _ hk => ⟨hk.2, hk.1⟩)), (by (with_reducible repeat (first | apply rA_ | apply rN_ | apply rD_)); exact Kd.R_mono HO_181002.out (fun _ hk => ⟨hk.2, hk.1⟩)), (by (with_reducible repeat (first | apply kN_ | apply kD_ | apply kA_)); exact BK173.out), (by (with_reducible repeat (first | apply kN_ | apply kD_ | apply kA_)); exact BK174.out), (by (with_reducible repeat (first | apply kN_ | apply kD_ | apply kA_)); exact BK180.out), (by repeat (first | (with_reducible first | exact HB.out | apply bA_ | apply bN_ | apply bD_ | refine bS_ ?_ GE173.out | refine bS_ ?_ GE174.out | refine bS_ ?_ GE180.out) | exact HB.out))⟩)
                    · skip
                      refine Kd.R_lit_step k48 _ 48 ?hg (N := 37) ?hd (xs := ([(⟨a1, a0_1⟩ : S48)] : List (S48))) (inner := [.int .i64 a1, .int .i64 a0_1]) (ok := fun _ => True) (okp := fun _ => True) ?hr ?hp (fun _ hk => hk) trivial (Below.refl _ _) (Nat.le_refl _) (by simp) ?_; (case hd => rfl); (case hg => rfl); (case hr => first | (go_simp; done) | (go_simp; rfl)); (case hp => exact (Reps.c2 (show Kd.M k48 _ _ _ (⟨a1, a0_1⟩ : S48) [.int .i64 a1, .int .i64 a0_1] from (k48_mkM _ _ _ (⟨a1, a0_1⟩ : S48) )) (Reps.none _ _)))
                      intro v223 w72 ho73 hb hg_ hnew_
                      clear hg_ hnew_
                      (first | rw [← Ny222.out] at ho73 | (simp only [Int.reduceToNat] at ho73; rw [← Ny222.out] at ho73))
                      have n0_ := As_ (Kd.R_elder' (by (with_reducible repeat (first | apply rA_ | apply rN_ | apply rD_)); exact HO_181002.out) (Kd.R_base ho73) hb)
                      have n1_ := As_ (Kd.R_lower (Kd.R_new' ho73 (Kd.R_lt (by (with_reducible repeat (first | apply rA_ | apply rN_ | apply rD_)); exact HO_181002.out))) (below_size (by repeat (first | (with_reducible first | exact HB.out | apply bA_ | apply bN_ | apply bD_ | refine bS_ ?_ GE173.out | refine bS_ ?_ GE174.out | refine bS_ ?_ GE180.out) | exact HB.out))))
                      have n2_ := As_ (blk_below (g := gb173) (o := .cells #[.int .i64 a0_0, .int .i64 a0_1, .slice A0_2 l0_2.length c0_2] 24 (0, 0)) (by (with_reducible repeat (first | apply kN_ | apply kD_ | apply kA_)); exact BK173.out) hb)
                      have n3_ := As_ (blk_below (g := gb174) (o := .cells #[.int .i64 0, .int .i64 0, .slice none 0 0] 24 (0, 0)) (by (with_reducible repeat (first | apply kN_ | apply kD_ | apply kA_)); exact BK174.out) hb)
                      have n4_ := As_ (blk_below (g := gb180) (o := .cells #[.int .i64 t175, .int .i64 t176, .slice Ao13 t177.length co13] 24 (0, 0)) (by (with_reducible repeat (first | apply kN_ | apply kD_ | apply kA_)); exact BK180.out) hb)
                      have n5_ := As_ (below_step (by repeat (first | (with_reducible first | exact HB.out | apply bA_ | apply bN_ | apply bD_ | refine bS_ ?_ GE173.out | refine bS_ ?_ GE174.out | refine bS_ ?_ GE180.out) | exact HB.out)) hb)
                      clear HO_181002 BK173 BK174 BK180 HB
                      have HO_181002 := n0_
                      have HO224 := n1_
                      have BK173 := n2_
                      have BK174 := n3_
                      have BK180 := n4_
                      have HB := n5_
                      clear n0_ n1_ n2_ n3_ n4_ n5_ hb ho73
                      refine hK.out _ _ ⟨(blk_cell BK173.out 0).trans rfl, (blk_cell BK173.out 1).trans rfl, (blk_cell BK173.out 2).trans rfl⟩ (fun hHeld => ?_)
                      clear hK K
                      refine norm_ (a' := ?_) ?_ ?_
                      rotate_left
                      · show Act.put _ (some 37) _ = _
                        simp only [Act.put, List.setIfInBounds_toArray, List.set_cons_zero, List.set_cons_succ, i64_w, i32_w]
                        rfl
                      refine one_ (i := 0) (N := some 27) #[true, true, true, true, true, false, true, true, true, true, true, false, false, false] rfl rfl (one_of HT_.out (by kernel_rfl)) (by decide) (fun K hK => ?_)
                      refine Kd.R_lit_step k48 _ 48 ?hg (N := 27) ?hd (xs := ([] : List (S48))) (inner := []) (ok := fun _ => True) (okp := fun _ => True) ?hr ?hp (fun _ hk => hk) trivial (Below.refl _ _) (Nat.le_refl _) (by simp) ?_; (case hd => rfl); (case hg => rfl); (case hr => first | (go_simp; done) | (go_simp; rfl)); (case hp => exact (Reps.none _ _))
                      intro v213 w74 ho75 hb hg_ hnew_
                      clear hg_ hnew_
                      (first | rw [← Ny212.out] at ho75 | (simp only [Int.reduceToNat] at ho75; rw [← Ny212.out] at ho75))
                      have n0_ := As_ (Kd.R_elder' (by (with_reducible repeat (first | apply rA_ | apply rN_ | apply rD_)); exact HO_181002.out) (Kd.R_base ho75) hb)
                      have n1_ := As_ (Kd.R_elder' (by (with_reducible repeat (first | apply rA_ | apply rN_ | apply rD_)); exact HO224.out) (Kd.R_base ho75) hb)
                      have n2_ := As_ (Kd.R_lower (Kd.R_new' (Kd.R_new' ho75 (Kd.R_lt (by (with_reducible repeat (first | apply rA_ | apply rN_ | apply rD_)); exact HO_181002.out))) (Kd.R_lt (by (with_reducible repeat (first | apply rA_ | apply rN_ | apply rD_)); exact HO224.out))) (below_size (by repeat (first | (with_reducible first | exact HB.out | apply bA_ | apply bN_ | apply bD_ | refine bS_ ?_ GE173.out | refine bS_ ?_ GE174.out | refine bS_ ?_ GE180.out) | exact HB.out))))
                      have n3_ := As_ (blk_below (g := gb173) (o := .cells #[.int .i64 a0_0, .int .i64 a0_1, .slice A0_2 l0_2.length c0_2] 24 (0, 0)) (by (with_reducible repeat (first | apply kN_ | apply kD_ | apply kA_)); exact BK173.out) hb)
                      have n4_ := As_ (blk_below (g := gb174) (o := .cells #[.int .i64 0, .int .i64 0, .slice none 0 0] 24 (0, 0)) (by (with_reducible repeat (first | apply kN_ | apply kD_ | apply kA_)); exact BK174.out) hb)
                      have n5_ := As_ (blk_below (g := gb180) (o := .cells #[.int .i64 t175, .int .i64 t176, .slice Ao13 t177.length co13] 24 (0, 0)) (by (with_reducible repeat (first | apply kN_ | apply kD_ | apply kA_)); exact BK180.out) hb)
                      have n6_ := As_ (below_step (by repeat (first | (with_reducible first | exact HB.out | apply bA_ | apply bN_ | apply bD_ | refine bS_ ?_ GE173.out | refine bS_ ?_ GE174.out | refine bS_ ?_ GE180.out) | exact HB.out)) hb)
                      clear HO_181002 HO224 BK173 BK174 BK180 HB
                      have HO_181002 := n0_
                      have HO224 := n1_
                      have HO214 := n2_
                      have BK173 := n3_
                      have BK174 := n4_
                      have BK180 := n5_
                      have HB := n6_
                      clear n0_ n1_ n2_ n3_ n4_ n5_ n6_ hb ho75
                      refine hK.out _ _ ⟨(blk_cell BK173.out 0).trans rfl, (blk_cell BK173.out 1).trans rfl, (blk_cell BK173.out 2).trans rfl⟩ (fun hHeld => ?_)
                      clear hK K
                      refine norm_ (a' := ?_) ?_ ?_
                      rotate_left
                      · show Act.put _ (some 27) _ = _
                        simp only [Act.put, List.setIfInBounds_toArray, List.set_cons_zero, List.set_cons_succ, i64_w, i32_w]
                        rfl
                      refine one_ (i := 5) (N := some 32) #[true, true, true, true, true, true, true, true, true, true, true, false, false, false] rfl rfl (one_of HT_.out (by kernel_rfl)) (by decide) (fun K hK => ?_)
                      refine Kd.R_append_rows_step k48 (w0 := w) w.heap.size (by rfl) (.tmp 27) (.tmp 31) 22 48 (.agg #[(.int .i64 0), (.int .i64 0)]) 16 rfl Try.underlying22 info48 rfl (by decide) (by omega) v213 y212 y215 _ _ _ (fun k_ => some k_ ≠ (.slice Ao13 t177.length co13 : Value).ownBlock ∧ some k_ ≠ (v223 : Value).ownBlock) (fun _ => False) rfl rfl ?aO ?aR (fun _ _ h => h) (fun _ h => h.elim) ?aF ?aB ?aS ?aL ?_
                      (case aR => repeat (first | exact (Kd.C_below HR218.out HB.out) | (with_reducible first | apply cA_ | apply cN_ | apply cD_)))
                      (case aB => exact (by repeat (first | (with_reducible first | exact HB.out | apply bA_ | apply bN_ | apply bD_ | refine bS_ ?_ GE173.out | refine bS_ ?_ GE174.out | refine bS_ ?_ GE180.out) | exact HB.out)))
                      (case aF => exact (fun k_ hk => ⟨Kd.fresh' (Kd.R_lt (by (with_reducible repeat (first | apply rA_ | apply rN_ | apply rD_)); exact HO_181002.out)) k_ hk, Kd.fresh' (Kd.R_lt (by (with_reducible repeat (first | apply rA_ | apply rN_ | apply rD_)); exact HO224.out)) k_ hk⟩))
                      (case aO => exact (by (with_reducible repeat (first | apply rA_ | apply rN_ | apply rD_)); exact Kd.R_mono HO214.out (fun _ hk => ⟨hk.1.2, hk.2⟩)))
                      (case aS => exact (below_size (by repeat (first | (with_reducible first | exact HB.out | apply bA_ | apply bN_ | apply bD_ | refine bS_ ?_ GE173.out | refine bS_ ?_ GE174.out | refine bS_ ?_ GE180.out) | exact HB.out))))
                      (case aL => have := LMc60.out; omega)
                      intro v220 w76 ho hb hg hat
                      rw [← Ny219.out] at ho
                      have n0_ := As_ (Kd.R_after (ok := (fun k_ => some k_ ≠ (v223 : Value).ownBlock)) (by (with_reducible repeat (first | apply rA_ | apply rN_ | apply rD_)); exact Kd.R_mono HO_181002.out (fun _ hk => ⟨hk.1.2, hk.2⟩)) hg hat)
                      have n1_ := As_ (blk_grown (g := gb173) (o := .cells #[.int .i64 a0_0, .int .i64 a0_1, .slice A0_2 l0_2.length c0_2] 24 (0, 0)) (by (with_reducible repeat (first | apply kN_ | apply kD_ | apply kA_)); exact BK173.out) hg (Kd.R_ne HO214.out BK173.out (by decide)))
                      have n2_ := As_ (blk_grown (g := gb174) (o := .cells #[.int .i64 0, .int .i64 0, .slice none 0 0] 24 (0, 0)) (by (with_reducible repeat (first | apply kN_ | apply kD_ | apply kA_)); exact BK174.out) hg (Kd.R_ne HO214.out BK174.out (by decide)))
                      have n3_ := As_ (blk_grown (g := gb180) (o := .cells #[.int .i64 t175, .int .i64 t176, .slice Ao13 t177.length co13] 24 (0, 0)) (by (with_reducible repeat (first | apply kN_ | apply kD_ | apply kA_)); exact BK180.out) hg (Kd.R_ne HO214.out BK180.out (by decide)))
                      have n4_ := As_ (Kd.R_after (ok := (fun k_ => some k_ ≠ (.slice Ao13 t177.length co13 : Value).ownBlock)) (by (with_reducible repeat (first | apply rA_ | apply rN_ | apply rD_)); exact Kd.R_mono HO224.out (fun _ hk => ⟨hk.1.2, hk.2⟩)) hg hat)
                      have n5_ := As_ (hb)
                      have n6_ := As_ (ho)
                      clear HO_181002 BK173 BK174 BK180 HO224 HB HO214
                      have HO_181002 := n0_
                      have BK173 := n1_
                      have BK174 := n2_
                      have BK180 := n3_
                      have HO224 := n4_
                      have HB := n5_
                      have HO221 := n6_
                      clear n0_ n1_ n2_ n3_ n4_ n5_ n6_ ho hb hg hat
                      refine hK.out _ _ ⟨(blk_cell BK173.out 0).trans rfl, (blk_cell BK173.out 1).trans rfl, (blk_cell BK173.out 2).trans rfl⟩ (fun hHeld => ?_)
                      clear hK K
                      refine norm_ (a' := ?_) ?_ ?_
                      rotate_left
                      · show Act.put _ (some 32) _ = _
                        simp only [Act.put, List.setIfInBounds_toArray, List.set_cons_zero, List.set_cons_succ, i64_w, i32_w]
                        rfl
                      exact norm_ (by simp only [putAll, Act.put, List.setIfInBounds_toArray, List.set_cons_zero, List.set_cons_succ]) (hCont (v213, v220, v223) _ ⟨hHeld, (by (with_reducible repeat (first | apply rA_ | apply rN_ | apply rD_)); exact Kd.R_mono HO221.out (fun _ hk => ⟨hk.2, hk.1⟩)), (by (with_reducible repeat (first | apply rA_ | apply rN_ | apply rD_)); exact Kd.R_mono HO224.out (fun _ hk => ⟨hk.2, hk.1⟩)), (by (with_reducible repeat (first | apply rA_ | apply rN_ | apply rD_)); exact Kd.R_mono HO_181002.out (fun _ hk => ⟨hk.2, hk.1⟩)), (by (with_reducible repeat (first | apply kN_ | apply kD_ | apply kA_)); exact BK173.out), (by (with_reducible repeat (first | apply kN_ | apply kD_ | apply kA_)); exact BK174.out), (by (with_reducible repeat (first | apply kN_ | apply kD_ | apply kA_)); exact BK180.out), (by repeat (first | (with_reducible first | exact HB.out | apply bA_ | apply bN_ | apply bD_ | refine bS_ ?_ GE173.out | refine bS_ ?_ GE174.out | refine bS_ ?_ GE180.out) | exact HB.out))⟩)
                  rintro ⟨v213, v220, v223⟩ w77 ⟨hS_, h0_, h1_, h2_, h3_, h4_, h5_, h6_⟩
                  have HO221 : Aside0 (Kd.R k48 48 w77 w.heap.size (fun k_ => some k_ ≠ (v223 : Value).ownBlock ∧ some k_ ≠ (.slice Ao13 t177.length co13 : Value).ownBlock) v220 y219) := ⟨h0_⟩
                  have HO224 : Aside0 (Kd.R k48 48 w77 w.heap.size (fun k_ => some k_ ≠ (v220 : Value).ownBlock ∧ some k_ ≠ (.slice Ao13 t177.length co13 : Value).ownBlock) v223 y222) := ⟨h1_⟩
                  replace HO_181002 : Aside0 (Kd.R k48 48 w77 w.heap.size (fun k_ => some k_ ≠ (v220 : Value).ownBlock ∧ some k_ ≠ (v223 : Value).ownBlock) (.slice Ao13 t177.length co13) t177) := ⟨h2_⟩
                  replace BK173 : Aside0 (w77.heap[gb173]? = some (.cells #[.int .i64 a0_0, .int .i64 a0_1, .slice A0_2 l0_2.length c0_2] 24 (0, 0))) := ⟨h3_⟩
                  replace BK174 : Aside0 (w77.heap[gb174]? = some (.cells #[.int .i64 0, .int .i64 0, .slice none 0 0] 24 (0, 0))) := ⟨h4_⟩
                  replace BK180 : Aside0 (w77.heap[gb180]? = some (.cells #[.int .i64 t175, .int .i64 t176, .slice Ao13 t177.length co13] 24 (0, 0))) := ⟨h5_⟩
                  replace HB : Aside0 (Below w.heap.size w w77) := ⟨h6_⟩
                  clear h0_ h1_ h2_ h3_ h4_ h5_ h6_
                  have hHeld : w77.cell? ⟨gb173, 0, none⟩ = some (.int .i64 a0_0) ∧ w77.cell? ⟨gb173, 1, none⟩ = some (.int .i64 a0_1) ∧ w77.cell? ⟨gb173, 2, none⟩ = some (.slice A0_2 l0_2.length c0_2) := hS_
                  obtain ⟨Ao79, co79, eo79⟩ := Kd.R_slice HO224.out
                  (first | subst eo79 | (injection eo79 with f1_ f2_ f3_; have f4_ := f1_.symm; have f5_ := f3_.symm; clear f1_ f2_ f3_; subst f4_; subst f5_))
                  refine norm_ (a' := ?_) ?_ ?_
                  rotate_left
                  · simp only [putAll, Act.put, List.setIfInBounds_toArray, List.set_cons_zero, List.set_cons_succ]
                    rfl
                  refine one_ (i := 11) (N := some 38) #[true, true, true, true, true, true, true, true, true, true, true, true, false, false] rfl rfl (one_of HT_.out (by kernel_rfl)) (by decide) (fun K hK => ?_)
                  refine Kd.R_append_rows_step k48 (w0 := w) w.heap.size (by rfl) (.tmp 32) (.tmp 37) 22 48 (.agg #[(.int .i64 0), (.int .i64 0)]) 16 rfl Try.underlying22 info48 rfl (by decide) (by omega) v220 y219 y222 _ _ _ (fun k_ => some k_ ≠ (.slice Ao13 t177.length co13 : Value).ownBlock ∧ some k_ ≠ (.slice Ao79 y222.length co79 : Value).ownBlock) (fun _ => False) rfl rfl ?aO ?aR (fun _ _ h => h) (fun _ h => h.elim) ?aF ?aB ?aS ?aL ?_
                  (case aR => repeat (first | exact (Kd.R_reads' HO224.out).2.2 | (with_reducible first | apply cA_ | apply cN_ | apply cD_)))
                  (case aB => exact (by repeat (first | (with_reducible first | exact HB.out | apply bA_ | apply bN_ | apply bD_ | refine bS_ ?_ GE173.out | refine bS_ ?_ GE174.out | refine bS_ ?_ GE180.out) | exact HB.out)))
                  (case aF => exact (fun k_ hk => ⟨Kd.fresh' (Kd.R_lt (by (with_reducible repeat (first | apply rA_ | apply rN_ | apply rD_)); exact HO_181002.out)) k_ hk, Kd.fresh' (Kd.R_lt (by (with_reducible repeat (first | apply rA_ | apply rN_ | apply rD_)); exact HO224.out)) k_ hk⟩))
                  (case aO => exact (by (with_reducible repeat (first | apply rA_ | apply rN_ | apply rD_)); exact Kd.R_mono HO221.out (fun _ hk => ⟨hk.2, hk.1⟩)))
                  (case aS => exact (below_size (by repeat (first | (with_reducible first | exact HB.out | apply bA_ | apply bN_ | apply bD_ | refine bS_ ?_ GE173.out | refine bS_ ?_ GE174.out | refine bS_ ?_ GE180.out) | exact HB.out))))
                  (case aL => have := LMc61.out; omega)
                  intro v226 w78 ho hb hg hat
                  rw [← Ny225.out] at ho
                  have n0_ := As_ (Kd.R_after (ok := (fun k_ => some k_ ≠ (.slice Ao79 y222.length co79 : Value).ownBlock)) (by (with_reducible repeat (first | apply rA_ | apply rN_ | apply rD_)); exact Kd.R_mono HO_181002.out (fun _ hk => ⟨hk.2, hk.1⟩)) hg hat)
                  have n1_ := As_ (blk_grown (g := gb173) (o := .cells #[.int .i64 a0_0, .int .i64 a0_1, .slice A0_2 l0_2.length c0_2] 24 (0, 0)) (by (with_reducible repeat (first | apply kN_ | apply kD_ | apply kA_)); exact BK173.out) hg (Kd.R_ne HO221.out BK173.out (by decide)))
                  have n2_ := As_ (blk_grown (g := gb174) (o := .cells #[.int .i64 0, .int .i64 0, .slice none 0 0] 24 (0, 0)) (by (with_reducible repeat (first | apply kN_ | apply kD_ | apply kA_)); exact BK174.out) hg (Kd.R_ne HO221.out BK174.out (by decide)))
                  have n3_ := As_ (blk_grown (g := gb180) (o := .cells #[.int .i64 t175, .int .i64 t176, .slice Ao13 t177.length co13] 24 (0, 0)) (by (with_reducible repeat (first | apply kN_ | apply kD_ | apply kA_)); exact BK180.out) hg (Kd.R_ne HO221.out BK180.out (by decide)))
                  have n4_ := As_ (Kd.R_after (ok := (fun k_ => some k_ ≠ (.slice Ao13 t177.length co13 : Value).ownBlock)) (by (with_reducible repeat (first | apply rA_ | apply rN_ | apply rD_)); exact Kd.R_mono HO224.out (fun _ hk => ⟨hk.2, hk.1⟩)) hg hat)
                  have n5_ := As_ (hb)
                  have n6_ := As_ (ho)
                  clear HO_181002 BK173 BK174 BK180 HO224 HB HO221
                  have HO_181002 := n0_
                  have BK173 := n1_
                  have BK174 := n2_
                  have BK180 := n3_
                  have HO224 := n4_
                  have HB := n5_
                  have HO227 := n6_
                  clear n0_ n1_ n2_ n3_ n4_ n5_ n6_ ho hb hg hat
                  obtain ⟨Ao80, co80, eo80⟩ := Kd.R_slice HO227.out
                  (first | subst eo80 | (injection eo80 with f1_ f2_ f3_; have f4_ := f1_.symm; have f5_ := f3_.symm; clear f1_ f2_ f3_; subst f4_; subst f5_))
                  refine hK.out _ _ ⟨(blk_cell BK173.out 0).trans rfl, (blk_cell BK173.out 1).trans rfl, (blk_cell BK173.out 2).trans rfl⟩ (fun hHeld => ?_)
                  clear hK K
                  refine norm_ (a' := ?_) ?_ ?_
                  rotate_left
                  · show Act.put _ (some 38) _ = _
                    simp only [Act.put, List.setIfInBounds_toArray, List.set_cons_zero, List.set_cons_succ, i64_w, i32_w]
                    rfl
                  refine pure_ (i := 12) (N := some 39) (v := ?_) (a' := ?_) #[true, true, true, true, true, true, true, true, true, true, true, true, true, false] rfl rfl (any_of HT_.out (by kernel_rfl)) (fun _ _ _ h => h) (Or.inl ⟨by rfl, ?_⟩) ?_ ?_
                  rotate_left
                  · intro w'
                    go_simp
                    with_reducible rfl
                  rotate_left
                  · simp only [Act.put, List.setIfInBounds_toArray, List.set_cons_zero, List.set_cons_succ, i64_w, i32_w]
                    rfl
                  refine one_ (i := 13) (N := none) #[true, true, true, true, true, true, true, true, true, true, true, true, true, true] rfl rfl (one_of HT_.out (by kernel_rfl)) (by decide) (fun K hK => ?_)
                  have hs81 : w78.cell? ⟨gb180, 2, none⟩ = some (.slice Ao13 t177.length co13) := (blk_cell BK180.out 2).trans rfl
                  have hfs81 := blk_frozen BK180.out 2
                  have hns81_0 := NB173_180.out
                  have hns81_1 := NB174_180.out
                  have hms81_0 := NB180_173.out
                  have hms81_1 := NB180_174.out
                  refine skip_ (w1 := ?_) (by rfl) rfl ?_ ?_
                  rotate_left
                  · go_simp
                    rfl
                  refine hK.out _ _ ⟨((cell_far (p := ⟨gb180, _, none⟩) NB173_180.out _).trans (hHeld.1)), ((cell_far (p := ⟨gb180, _, none⟩) NB173_180.out _).trans (hHeld.2.1)), ((cell_far (p := ⟨gb180, _, none⟩) NB173_180.out _).trans (hHeld.2.2))⟩ (fun hHeld => ?_)
                  clear hK K
                  refine done_ (done_of HT_.out (by kernel_rfl)) ?_
                  try go_wp2
                  have n0_ : Aside0 (Kd.R k48 48 (w78.setCell ⟨gb180, 2, none⟩ (.slice Ao80 y225.length co80)) w.heap.size (fun k_ => some k_ ≠ (.slice Ao79 y222.length co79 : Value).ownBlock ∧ some k_ ≠ (.slice Ao80 y225.length co80 : Value).ownBlock) (.slice Ao13 t177.length co13) t177) := ⟨by (with_reducible repeat (first | apply rA_ | apply rN_ | apply rD_)); exact Kd.R_mono (Kd.R_far (p := ⟨gb180, 2, none⟩) (Kd.R_types HO_181002.out BK180.out (by decide)) (fun _ hk => hk.2) (.slice Ao80 y225.length co80)) (fun _ hk => ⟨hk.1.1, hk.1.2⟩)⟩
                  have n1_ : Aside0 (Kd.R k48 48 (w78.setCell ⟨gb180, 2, none⟩ (.slice Ao80 y225.length co80)) w.heap.size (fun k_ => some k_ ≠ (.slice Ao13 t177.length co13 : Value).ownBlock ∧ some k_ ≠ (.slice Ao80 y225.length co80 : Value).ownBlock) (.slice Ao79 y222.length co79) y222) := ⟨by (with_reducible repeat (first | apply rA_ | apply rN_ | apply rD_)); exact Kd.R_mono (Kd.R_far (p := ⟨gb180, 2, none⟩) (Kd.R_types HO224.out BK180.out (by decide)) (fun _ hk => hk.2) (.slice Ao80 y225.length co80)) (fun _ hk => ⟨hk.1.1, hk.1.2⟩)⟩
                  have n2_ : Aside0 (Kd.R k48 48 (w78.setCell ⟨gb180, 2, none⟩ (.slice Ao80 y225.length co80)) w.heap.size (fun k_ => some k_ ≠ (.slice Ao13 t177.length co13 : Value).ownBlock ∧ some k_ ≠ (.slice Ao79 y222.length co79 : Value).ownBlock) (.slice Ao80 y225.length co80) y225) := ⟨by (with_reducible repeat (first | apply rA_ | apply rN_ | apply rD_)); exact Kd.R_mono (Kd.R_far (p := ⟨gb180, 2, none⟩) (Kd.R_types HO227.out BK180.out (by decide)) (fun _ hk => hk.2) (.slice Ao80 y225.length co80)) (fun _ hk => ⟨hk.1.1, hk.1.2⟩)⟩
                  have n3_ : Aside0 ((w78.setCell ⟨gb180, 2, none⟩ (.slice Ao80 y225.length co80)).heap[gb173]? = some (.cells #[.int .i64 a0_0, .int .i64 a0_1, .slice A0_2 l0_2.length c0_2] 24 (0, 0))) := ⟨by (with_reducible repeat (first | apply kN_ | apply kD_ | apply kA_)); refine blk_far ?_ NB173_180.out _; (with_reducible repeat (first | apply kN_ | apply kD_ | apply kA_)); exact BK173.out⟩
                  have n4_ : Aside0 ((w78.setCell ⟨gb180, 2, none⟩ (.slice Ao80 y225.length co80)).heap[gb174]? = some (.cells #[.int .i64 0, .int .i64 0, .slice none 0 0] 24 (0, 0))) := ⟨by (with_reducible repeat (first | apply kN_ | apply kD_ | apply kA_)); refine blk_far ?_ NB174_180.out _; (with_reducible repeat (first | apply kN_ | apply kD_ | apply kA_)); exact BK174.out⟩
                  have n5_ : Aside0 ((w78.setCell ⟨gb180, 2, none⟩ (.slice Ao80 y225.length co80)).heap[gb180]? = some (.cells #[.int .i64 t175, .int .i64 t176, .slice Ao80 y225.length co80] 24 (0, 0))) := ⟨by (with_reducible repeat (first | apply kN_ | apply kD_ | apply kA_)); refine blk_put (cs := #[.int .i64 t175, .int .i64 t176, .slice Ao13 t177.length co13]) ?_ 2 _ rfl; (with_reducible repeat (first | apply kN_ | apply kD_ | apply kA_)); exact BK180.out⟩
                  have n6_ : Aside0 (Below w.heap.size w (w78.setCell ⟨gb180, 2, none⟩ (.slice Ao80 y225.length co80))) := ⟨by repeat (first | (with_reducible first | exact HB.out | apply bA_ | apply bN_ | apply bD_ | refine bS_ ?_ GE173.out | refine bS_ ?_ GE174.out | refine bS_ ?_ GE180.out) | exact HB.out)⟩
                  (try clear HO_181002)
                  (try clear HO224)
                  (try clear HO227)
                  (try clear BK173)
                  (try clear BK174)
                  (try clear BK180)
                  (try clear HB)
                  generalize (w78.setCell ⟨gb180, 2, none⟩ (.slice Ao80 y225.length co80)) = w82 at n0_ n1_ n2_ n3_ n4_ n5_ n6_ ⊢
                  have HO_181002 := n0_
                  have HO224 := n1_
                  have HO227 := n2_
                  have BK173 := n3_
                  have BK174 := n4_
                  have BK180 := n5_
                  have HB := n6_
                  clear n0_ n1_ n2_ n3_ n4_ n5_ n6_
                  replace HO_181002 := As_ (Kd.R_drew HO_181002.out)
                  replace HO224 := As_ (Kd.R_drew HO224.out)
                  replace HO227 := As_ (Kd.R_drew HO227.out)
                  replace BK173 := As_ (blk_drew BK173.out)
                  replace BK174 := As_ (blk_drew BK174.out)
                  replace BK180 := As_ (blk_drew BK180.out)
                  replace HB := As_ (below_drew1 HB.out)
                  have q84 : (x7_1 : Int) ≤ ((l0_2.length : Int) : Int) := of_decide_eq_true (by first | (with_reducible assumption) | assumption)
                  obtain ⟨i084, hi084, _, hsz84, _⟩ := info_parts info48
                  have hroom84 : l0_2.length ≤ c0_2 := HC0_2.out
                  have hC84 : Kd.C k48 _ A0_2 l0_2.length l0_2 := HR0_2.out
                  have q084 : (0 : Int) ≤ (x7_1 : Int) := of_decide_eq_true (by first | (with_reducible assumption) | assumption)
                  have hcut84 := cut_from (P := Try.prog) 22 48 .i64 Try.underlying22 hi084 2 hsz84 A0_2 l0_2.length c0_2 x7_1 q084 q84
                  have hr84 := Kd.C_drop (m := (x7_1 : Int).toNat) (c := c0_2) hC84 (by omega) hroom84
                  obtain ⟨A84, hA84⟩ : ∃ A1, A1 = (if c0_2 = (x7_1 : Int).toNat then A0_2 else (A0_2 : Option Addr).map (·.add ((x7_1 : Int).toNat * 2))) := ⟨_, rfl⟩
                  obtain ⟨c84, hc84⟩ : ∃ c1, c1 = c0_2 - (x7_1 : Int).toNat := ⟨_, rfl⟩
                  have hy84 : y228.length = l0_2.length - (x7_1 : Int).toNat := (by rw [Ny228.out, List.length_drop] <;> omega)
                  rw [show (l0_2).drop (x7_1 : Int).toNat = y228 from Ny228.out.symm] at hr84
                  replace hr84 : Kd.C k48 _ A84 y228.length y228 := (by rw [hA84]; exact hr84)
                  rw [← hy84, ← hA84, ← hc84] at hcut84
                  have HR231 := Aside0.mk hr84
                  have HC231 := As_ (show y228.length ≤ c84 from by rw [hy84, hc84]; exact Nat.sub_le_sub_right hroom84 _)
                  clear hr84 hC84 hroom84 hi084 hsz84 hc84
                  have KY84 := Aside0.mk hy84
                  have KA84 := Aside0.mk hA84
                  clear hy84 hA84
                  replace q84 := eq_true q84
                  refine start_ (n := 9) (S := fun w' => w'.cell? ⟨gb180, 0, none⟩ = some (.int .i64 t175) ∧ w'.cell? ⟨gb180, 1, none⟩ = some (.int .i64 t176) ∧ w'.cell? ⟨gb180, 2, none⟩ = some (.slice Ao80 y225.length co80) ∧ w'.cell? ⟨gb173, 0, none⟩ = some (.int .i64 a0_0) ∧ w'.cell? ⟨gb173, 1, none⟩ = some (.int .i64 a0_1) ∧ w'.cell? ⟨gb173, 2, none⟩ = some (.slice A0_2 l0_2.length c0_2)) (ds := [8]) #[false, false, false, false, false, false, false, false, false] (by kernel_rfl) rfl rfl ⟨(blk_cell BK180.out 0).trans rfl, (blk_cell BK180.out 1).trans rfl, (blk_cell BK180.out 2).trans rfl, (blk_cell BK173.out 0).trans rfl, (blk_cell BK173.out 1).trans rfl, (blk_cell BK173.out 2).trans rfl⟩ (fun hHeld => ?_); refine with_tabW spec_OpenLane.tab6 spec_OpenLane.bits6 (fun HT_ HW_ => ?_)
                  generalize w82.drew = w83 at HO_181002 HO224 HO227 BK173 BK174 BK180 HB HR231 hHeld ⊢
                  refine pure_ (i := 0) (N := some 40) (v := ?_) (a' := ?_) #[true, false, false, false, false, false, false, false, false] rfl rfl (any_of HT_.out (by kernel_rfl)) (fun _ _ _ h => h) (Or.inl ⟨by rfl, ?_⟩) ?_ ?_
                  rotate_left
                  · intro w'
                    go_simp
                    with_reducible rfl
                  rotate_left
                  · simp only [Act.put, List.setIfInBounds_toArray, List.set_cons_zero, List.set_cons_succ, i64_w, i32_w]
                    rfl
                  refine pure_ (i := 2) (N := some 42) (v := ?_) (a' := ?_) #[true, false, true, false, false, false, false, false, false] rfl rfl (any_of HT_.out (by kernel_rfl)) (fun _ _ _ h => h) (Or.inl ⟨by rfl, ?_⟩) ?_ ?_
                  rotate_left
                  · intro w'
                    go_simp
                    with_reducible rfl
                  rotate_left
                  · simp only [Act.put, List.setIfInBounds_toArray, List.set_cons_zero, List.set_cons_succ, i64_w, i32_w]
                    rfl
                  refine pure_ (i := 4) (N := some 44) (v := ?_) (a' := ?_) #[true, false, true, false, true, false, false, false, false] rfl rfl (any_of HT_.out (by kernel_rfl)) (fun _ _ _ h => h) (Or.inl ⟨by rfl, ?_⟩) ?_ ?_
                  rotate_left
                  · intro w'
                    go_simp
                    with_reducible rfl
                  rotate_left
                  · simp only [Act.put, List.setIfInBounds_toArray, List.set_cons_zero, List.set_cons_succ, i64_w, i32_w]
                    rfl
                  refine take_ (i := 1) (N := some 41) (v := ?_) (a' := ?_) #[true, true, true, false, true, false, false, false, false] rfl rfl (take_ofW HT_.out HW_.out (by kernel_rfl)) (fun _ _ _ h => h) (Or.inl ⟨by rfl, ?_⟩) hHeld ?_ ?_
                  rotate_left
                  · rintro w' ⟨s0, s1, s2, s3, s4, s5⟩
                    go_simp
                    with_reducible rfl
                  rotate_left
                  · simp only [Act.put, List.setIfInBounds_toArray, List.set_cons_zero, List.set_cons_succ, i64_w, i32_w]
                    rfl
                  refine take_ (i := 3) (N := some 43) (v := ?_) (a' := ?_) #[true, true, true, true, true, false, false, false, false] rfl rfl (take_ofW HT_.out HW_.out (by kernel_rfl)) (fun _ _ _ h => h) (Or.inl ⟨by rfl, ?_⟩) hHeld ?_ ?_
                  rotate_left
                  · rintro w' ⟨s0, s1, s2, s3, s4, s5⟩
                    go_simp
                    with_reducible rfl
                  rotate_left
                  · simp only [Act.put, List.setIfInBounds_toArray, List.set_cons_zero, List.set_cons_succ, i64_w, i32_w]
                    rfl
                  refine pure_ (i := 5) (N := some 45) (v := ?_) (a' := ?_) #[true, true, true, true, true, true, false, false, false] rfl rfl (any_of HT_.out (by kernel_rfl)) (fun _ _ _ h => h) (Or.inl ⟨by rfl, ?_⟩) ?_ ?_
                  rotate_left
                  · intro w'
                    go_simp
                    with_reducible rfl
                  rotate_left
                  · simp only [Act.put, List.setIfInBounds_toArray, List.set_cons_zero, List.set_cons_succ, i64_w, i32_w]
                    rfl
                  refine one_ (i := 6) (N := some 46) #[true, true, true, true, true, true, true, false, false] rfl rfl (one_of HT_.out (by kernel_rfl)) (by decide) (fun K hK => ?_)
                  refine Kd.R_append_rows_step k48 (w0 := w) w.heap.size (by rfl) (.tmp 41) (.tmp 45) 22 48 (.agg #[(.int .i64 0), (.int .i64 0)]) 16 rfl Try.underlying22 info48 rfl (by decide) (by omega) (.slice Ao80 y225.length co80) y225 y228 _ _ _ (fun k_ => some k_ ≠ (.slice Ao13 t177.length co13 : Value).ownBlock ∧ some k_ ≠ (.slice Ao79 y222.length co79 : Value).ownBlock) (fun _ => False) rfl rfl ?aO ?aR (fun _ _ h => h) (fun _ h => h.elim) ?aF ?aB ?aS ?aL ?_
                  (case aR => repeat (first | exact (Kd.C_below HR231.out HB.out) | (with_reducible first | apply cA_ | apply cN_ | apply cD_)))
                  (case aB => exact (by repeat (first | (with_reducible first | exact HB.out | apply bA_ | apply bN_ | apply bD_ | refine bS_ ?_ GE173.out | refine bS_ ?_ GE174.out | refine bS_ ?_ GE180.out) | exact HB.out)))
                  (case aF => exact (fun k_ hk => ⟨Kd.fresh' (Kd.R_lt (by (with_reducible repeat (first | apply rA_ | apply rN_ | apply rD_)); exact HO_181002.out)) k_ hk, Kd.fresh' (Kd.R_lt (by (with_reducible repeat (first | apply rA_ | apply rN_ | apply rD_)); exact HO224.out)) k_ hk⟩))
                  (case aO => exact (by (with_reducible repeat (first | apply rA_ | apply rN_ | apply rD_)); exact HO227.out))
                  (case aS => exact (below_size (by repeat (first | (with_reducible first | exact HB.out | apply bA_ | apply bN_ | apply bD_ | refine bS_ ?_ GE173.out | refine bS_ ?_ GE174.out | refine bS_ ?_ GE180.out) | exact HB.out))))
                  (case aL => have := LMc64.out; omega)
                  intro v233 w85 ho hb hg hat
                  rw [← Ny232.out] at ho
                  have n0_ := As_ (Kd.R_after (ok := (fun k_ => some k_ ≠ (.slice Ao79 y222.length co79 : Value).ownBlock)) (by (with_reducible repeat (first | apply rA_ | apply rN_ | apply rD_)); exact HO_181002.out) hg hat)
                  have n1_ := As_ (blk_grown (g := gb173) (o := .cells #[.int .i64 a0_0, .int .i64 a0_1, .slice A0_2 l0_2.length c0_2] 24 (0, 0)) (by (with_reducible repeat (first | apply kN_ | apply kD_ | apply kA_)); exact BK173.out) hg (Kd.R_ne HO227.out BK173.out (by decide)))
                  have n2_ := As_ (blk_grown (g := gb174) (o := .cells #[.int .i64 0, .int .i64 0, .slice none 0 0] 24 (0, 0)) (by (with_reducible repeat (first | apply kN_ | apply kD_ | apply kA_)); exact BK174.out) hg (Kd.R_ne HO227.out BK174.out (by decide)))
                  have n3_ := As_ (blk_grown (g := gb180) (o := .cells #[.int .i64 t175, .int .i64 t176, .slice Ao80 y225.length co80] 24 (0, 0)) (by (with_reducible repeat (first | apply kN_ | apply kD_ | apply kA_)); exact BK180.out) hg (Kd.R_ne HO227.out BK180.out (by decide)))
                  have n4_ := As_ (Kd.R_after (ok := (fun k_ => some k_ ≠ (.slice Ao13 t177.length co13 : Value).ownBlock)) (by (with_reducible repeat (first | apply rA_ | apply rN_ | apply rD_)); exact HO224.out) hg hat)
                  have n5_ := As_ (hb)
                  have n6_ := As_ (ho)
                  clear HO_181002 BK173 BK174 BK180 HO224 HB HO227
                  have HO_181002 := n0_
                  have BK173 := n1_
                  have BK174 := n2_
                  have BK180 := n3_
                  have HO224 := n4_
                  have HB := n5_
                  have HO234 := n6_
                  clear n0_ n1_ n2_ n3_ n4_ n5_ n6_ ho hb hg hat
                  obtain ⟨Ao86, co86, eo86⟩ := Kd.R_slice HO234.out
                  (first | subst eo86 | (injection eo86 with f1_ f2_ f3_; have f4_ := f1_.symm; have f5_ := f3_.symm; clear f1_ f2_ f3_; subst f4_; subst f5_))
                  refine hK.out _ _ ⟨(blk_cell BK180.out 0).trans rfl, (blk_cell BK180.out 1).trans rfl, (blk_cell BK180.out 2).trans rfl, (blk_cell BK173.out 0).trans rfl, (blk_cell BK173.out 1).trans rfl, (blk_cell BK173.out 2).trans rfl⟩ (fun hHeld => ?_)
                  clear hK K
                  refine norm_ (a' := ?_) ?_ ?_
                  rotate_left
                  · show Act.put _ (some 46) _ = _
                    simp only [Act.put, List.setIfInBounds_toArray, List.set_cons_zero, List.set_cons_succ, i64_w, i32_w]
                    rfl
                  refine pure_ (i := 7) (N := some 47) (v := ?_) (a' := ?_) #[true, true, true, true, true, true, true, true, false] rfl rfl (any_of HT_.out (by kernel_rfl)) (fun _ _ _ h => h) (Or.inl ⟨by rfl, ?_⟩) ?_ ?_
                  rotate_left
                  · intro w'
                    go_simp
                    with_reducible rfl
                  rotate_left
                  · simp only [Act.put, List.setIfInBounds_toArray, List.set_cons_zero, List.set_cons_succ, i64_w, i32_w]
                    rfl
                  refine last_ (i := 8) (N := none) #[true, true, true, true, true, true, true, true, true] rfl rfl (one_of HT_.out (by kernel_rfl)) (by decide) (fun K hK => ?_)
                  have hs87 : w85.cell? ⟨gb180, 2, none⟩ = some (.slice Ao80 y225.length co80) := (blk_cell BK180.out 2).trans rfl
                  have hfs87 := blk_frozen BK180.out 2
                  have hns87_0 := NB173_180.out
                  have hns87_1 := NB174_180.out
                  have hms87_0 := NB180_173.out
                  have hms87_1 := NB180_174.out
                  refine skip_ (w1 := ?_) (by rfl) rfl ?_ ?_
                  rotate_left
                  · go_simp
                    rfl
                  refine hK.out _ _ ?_
                  clear hK K
                  refine done_ (done_of HT_.out (by kernel_rfl)) ?_
                  try go_wp2
                  have n0_ : Aside0 (Kd.R k48 48 (w85.setCell ⟨gb180, 2, none⟩ (.slice Ao86 y232.length co86)) w.heap.size (fun k_ => some k_ ≠ (.slice Ao79 y222.length co79 : Value).ownBlock ∧ some k_ ≠ (.slice Ao86 y232.length co86 : Value).ownBlock) (.slice Ao13 t177.length co13) t177) := ⟨by (with_reducible repeat (first | apply rA_ | apply rN_ | apply rD_)); exact Kd.R_mono (Kd.R_far (p := ⟨gb180, 2, none⟩) (Kd.R_types HO_181002.out BK180.out (by decide)) (fun _ hk => hk.2) (.slice Ao86 y232.length co86)) (fun _ hk => ⟨hk.1.1, hk.1.2⟩)⟩
                  have n1_ : Aside0 (Kd.R k48 48 (w85.setCell ⟨gb180, 2, none⟩ (.slice Ao86 y232.length co86)) w.heap.size (fun k_ => some k_ ≠ (.slice Ao13 t177.length co13 : Value).ownBlock ∧ some k_ ≠ (.slice Ao86 y232.length co86 : Value).ownBlock) (.slice Ao79 y222.length co79) y222) := ⟨by (with_reducible repeat (first | apply rA_ | apply rN_ | apply rD_)); exact Kd.R_mono (Kd.R_far (p := ⟨gb180, 2, none⟩) (Kd.R_types HO224.out BK180.out (by decide)) (fun _ hk => hk.2) (.slice Ao86 y232.length co86)) (fun _ hk => ⟨hk.1.1, hk.1.2⟩)⟩
                  have n2_ : Aside0 (Kd.R k48 48 (w85.setCell ⟨gb180, 2, none⟩ (.slice Ao86 y232.length co86)) w.heap.size (fun k_ => some k_ ≠ (.slice Ao13 t177.length co13 : Value).ownBlock ∧ some k_ ≠ (.slice Ao79 y222.length co79 : Value).ownBlock) (.slice Ao86 y232.length co86) y232) := ⟨by (with_reducible repeat (first | apply rA_ | apply rN_ | apply rD_)); exact Kd.R_mono (Kd.R_far (p := ⟨gb180, 2, none⟩) (Kd.R_types HO234.out BK180.out (by decide)) (fun _ hk => hk.2) (.slice Ao86 y232.length co86)) (fun _ hk => ⟨hk.1.1, hk.1.2⟩)⟩
                  have n3_ : Aside0 ((w85.setCell ⟨gb180, 2, none⟩ (.slice Ao86 y232.length co86)).heap[gb173]? = some (.cells #[.int .i64 a0_0, .int .i64 a0_1, .slice A0_2 l0_2.length c0_2] 24 (0, 0))) := ⟨by (with_reducible repeat (first | apply kN_ | apply kD_ | apply kA_)); refine blk_far ?_ NB173_180.out _; (with_reducible repeat (first | apply kN_ | apply kD_ | apply kA_)); exact BK173.out⟩
                  have n4_ : Aside0 ((w85.setCell ⟨gb180, 2, none⟩ (.slice Ao86 y232.length co86)).heap[gb174]? = some (.cells #[.int .i64 0, .int .i64 0, .slice none 0 0] 24 (0, 0))) := ⟨by (with_reducible repeat (first | apply kN_ | apply kD_ | apply kA_)); refine blk_far ?_ NB174_180.out _; (with_reducible repeat (first | apply kN_ | apply kD_ | apply kA_)); exact BK174.out⟩
                  have n5_ : Aside0 ((w85.setCell ⟨gb180, 2, none⟩ (.slice Ao86 y232.length co86)).heap[gb180]? = some (.cells #[.int .i64 t175, .int .i64 t176, .slice Ao86 y232.length co86] 24 (0, 0))) := ⟨by (with_reducible repeat (first | apply kN_ | apply kD_ | apply kA_)); refine blk_put (cs := #[.int .i64 t175, .int .i64 t176, .slice Ao80 y225.length co80]) ?_ 2 _ rfl; (with_reducible repeat (first | apply kN_ | apply kD_ | apply kA_)); exact BK180.out⟩
                  have n6_ : Aside0 (Below w.heap.size w (w85.setCell ⟨gb180, 2, none⟩ (.slice Ao86 y232.length co86))) := ⟨by repeat (first | (with_reducible first | exact HB.out | apply bA_ | apply bN_ | apply bD_ | refine bS_ ?_ GE173.out | refine bS_ ?_ GE174.out | refine bS_ ?_ GE180.out) | exact HB.out)⟩
                  (try clear HO_181002)
                  (try clear HO224)
                  (try clear HO234)
                  (try clear BK173)
                  (try clear BK174)
                  (try clear BK180)
                  (try clear HB)
                  generalize (w85.setCell ⟨gb180, 2, none⟩ (.slice Ao86 y232.length co86)) = w88 at n0_ n1_ n2_ n3_ n4_ n5_ n6_ ⊢
                  have HO_181002 := n0_
                  have HO224 := n1_
                  have HO234 := n2_
                  have BK173 := n3_
                  have BK174 := n4_
                  have BK180 := n5_
                  have HB := n6_
                  clear n0_ n1_ n2_ n3_ n4_ n5_ n6_
                  replace HO_181002 := As_ (Kd.R_drew HO_181002.out)
                  replace HO224 := As_ (Kd.R_drew HO224.out)
                  replace HO234 := As_ (Kd.R_drew HO234.out)
                  replace BK173 := As_ (blk_drew BK173.out)
                  replace BK174 := As_ (blk_drew BK174.out)
                  replace BK180 := As_ (blk_drew BK180.out)
                  replace HB := As_ (below_drew1 HB.out)
                  refine start_ (n := 11) (S := fun w' => w'.cell? ⟨gb173, 0, none⟩ = some (.int .i64 a0_0) ∧ w'.cell? ⟨gb173, 1, none⟩ = some (.int .i64 a0_1) ∧ w'.cell? ⟨gb173, 2, none⟩ = some (.slice A0_2 l0_2.length c0_2) ∧ w'.cell? ⟨gb180, 0, none⟩ = some (.int .i64 t175) ∧ w'.cell? ⟨gb180, 1, none⟩ = some (.int .i64 t176) ∧ w'.cell? ⟨gb180, 2, none⟩ = some (.slice Ao86 y232.length co86)) (ds := []) #[false, false, false, false, false, false, false, false, false, false, false] (by kernel_rfl) rfl rfl ⟨(blk_cell BK173.out 0).trans rfl, (blk_cell BK173.out 1).trans rfl, (blk_cell BK173.out 2).trans rfl, (blk_cell BK180.out 0).trans rfl, (blk_cell BK180.out 1).trans rfl, (blk_cell BK180.out 2).trans rfl⟩ (fun hHeld => ?_); refine with_tabW spec_OpenLane.tab7 spec_OpenLane.bits7 (fun HT_ HW_ => ?_)
                  generalize w88.drew = w89 at HO_181002 HO224 HO234 BK173 BK174 BK180 HB hHeld ⊢
                  refine pure_ (i := 3) (N := some 51) (v := ?_) (a' := ?_) #[false, false, false, true, false, false, false, false, false, false, false] rfl rfl (any_of HT_.out (by kernel_rfl)) (fun _ _ _ h => h) (Or.inl ⟨by rfl, ?_⟩) ?_ ?_
                  rotate_left
                  · intro w'
                    go_simp
                    with_reducible rfl
                  rotate_left
                  · simp only [Act.put, List.setIfInBounds_toArray, List.set_cons_zero, List.set_cons_succ, i64_w, i32_w]
                    rfl
                  refine take_ (i := 0) (N := some 48) (v := ?_) (a' := ?_) #[true, false, false, true, false, false, false, false, false, false, false] rfl rfl (take_ofW HT_.out HW_.out (by kernel_rfl)) (fun _ _ _ h => h) (Or.inl ⟨by rfl, ?_⟩) hHeld ?_ ?_
                  rotate_left
                  · rintro w' ⟨s0, s1, s2, s3, s4, s5⟩
                    go_simp
                    with_reducible rfl
                  rotate_left
                  · simp only [Act.put, List.setIfInBounds_toArray, List.set_cons_zero, List.set_cons_succ, i64_w, i32_w]
                    rfl
                  refine take_ (i := 1) (N := some 49) (v := ?_) (a' := ?_) #[true, true, false, true, false, false, false, false, false, false, false] rfl rfl (take_ofW HT_.out HW_.out (by kernel_rfl)) (fun _ _ _ h => h) (Or.inl ⟨by rfl, ?_⟩) hHeld ?_ ?_
                  rotate_left
                  · rintro w' ⟨s0, s1, s2, s3, s4, s5⟩
                    go_simp
                    with_reducible rfl
                  rotate_left
                  · simp only [Act.put, List.setIfInBounds_toArray, List.set_cons_zero, List.set_cons_succ, i64_w, i32_w]
                    rfl
                  refine take_ (i := 2) (N := some 50) (v := ?_) (a' := ?_) #[true, true, true, true, false, false, false, false, false, false, false] rfl rfl (take_ofW HT_.out HW_.out (by kernel_rfl)) (fun _ _ _ h => h) (Or.inl ⟨by rfl, ?_⟩) hHeld ?_ ?_
                  rotate_left
                  · rintro w' ⟨s0, s1, s2, s3, s4, s5⟩
                    go_simp
                    with_reducible rfl
                  rotate_left
                  · simp only [Act.put, List.setIfInBounds_toArray, List.set_cons_zero, List.set_cons_succ, i64_w, i32_w]
                    rfl
                  refine one_ (i := 4) (N := some 52) #[true, true, true, true, true, false, false, false, false, false, false] rfl rfl (one_of HT_.out (by kernel_rfl)) (by decide) (fun K hK => ?_)
                  refine goes_ Try.func46 (by kernel_rfl) rfl #[.agg #[.int .i64 a0_0, .int .i64 a0_1, .slice A0_2 l0_2.length c0_2], .int .i64 a1] (by rfl) rfl rfl (by (try simp only [List.map_toArray, List.map_cons, List.map_nil]); first | done | rfl | (simp only [List.length_drop, List.length_take]; rfl)) ?_
                  with_reducible refine (spec_l10At.calls k1 a0_0 a0_1 _ _ l0_2 a1 t235 _ ?side1 ?side2 A65.out).mono ?_
                  (case side1 => repeat (first | exact (Kd.C_below HR0_2.out HB.out) | (with_reducible first | apply cA_ | apply cN_ | apply cD_)))
                  (case side2 => exact HC0_2.out)
                  rintro e w90 ⟨rfl, hb⟩
                  refine ⟨_, rfl, ?_⟩
                  replace HO_181002 := As_ (Kd.R_below (by (with_reducible repeat (first | apply rA_ | apply rN_ | apply rD_)); exact HO_181002.out) hb)
                  replace HO224 := As_ (Kd.R_below (by (with_reducible repeat (first | apply rA_ | apply rN_ | apply rD_)); exact HO224.out) hb)
                  replace HO234 := As_ (Kd.R_below (by (with_reducible repeat (first | apply rA_ | apply rN_ | apply rD_)); exact HO234.out) hb)
                  replace BK173 := As_ (blk_below (g := gb173) (o := .cells #[.int .i64 a0_0, .int .i64 a0_1, .slice A0_2 l0_2.length c0_2] 24 (0, 0)) (by (with_reducible repeat (first | apply kN_ | apply kD_ | apply kA_)); exact BK173.out) hb)
                  replace BK174 := As_ (blk_below (g := gb174) (o := .cells #[.int .i64 0, .int .i64 0, .slice none 0 0] 24 (0, 0)) (by (with_reducible repeat (first | apply kN_ | apply kD_ | apply kA_)); exact BK174.out) hb)
                  replace BK180 := As_ (blk_below (g := gb180) (o := .cells #[.int .i64 t175, .int .i64 t176, .slice Ao86 y232.length co86] 24 (0, 0)) (by (with_reducible repeat (first | apply kN_ | apply kD_ | apply kA_)); exact BK180.out) hb)
                  replace HB := As_ (below_step (by repeat (first | (with_reducible first | exact HB.out | apply bA_ | apply bN_ | apply bD_ | refine bS_ ?_ GE173.out | refine bS_ ?_ GE174.out | refine bS_ ?_ GE180.out) | exact HB.out)) hb)
                  (try clear hb)
                  (try clear hb2)
                  (try clear hk)
                  (try clear hi)
                  refine hK.out _ _ ⟨(blk_cell BK173.out 0).trans rfl, (blk_cell BK173.out 1).trans rfl, (blk_cell BK173.out 2).trans rfl, (blk_cell BK180.out 0).trans rfl, (blk_cell BK180.out 1).trans rfl, (blk_cell BK180.out 2).trans rfl⟩ (fun hHeld => ?_)
                  clear hK K
                  refine norm_ (a' := ?_) ?_ ?_
                  rotate_left
                  · show Act.put _ (some 52) _ = _
                    simp only [Act.put, List.setIfInBounds_toArray, List.set_cons_zero, List.set_cons_succ, i64_w, i32_w]
                    rfl
                  refine pure_ (i := 5) (N := some 53) (v := ?_) (a' := ?_) #[true, true, true, true, true, true, false, false, false, false, false] rfl rfl (any_of HT_.out (by kernel_rfl)) (fun _ _ _ h => h) (Or.inl ⟨by rfl, ?_⟩) ?_ ?_
                  rotate_left
                  · intro w'
                    go_simp
                    with_reducible rfl
                  rotate_left
                  · simp only [Act.put, List.setIfInBounds_toArray, List.set_cons_zero, List.set_cons_succ, i64_w, i32_w]
                    rfl
                  refine one_ (i := 6) (N := some 54) #[true, true, true, true, true, true, true, false, false, false, false] rfl rfl (one_of HT_.out (by kernel_rfl)) (by decide) (fun K hK => ?_)
                  refine goes_ Try.func48 (by kernel_rfl) rfl #[.agg #[.int .i64 a0_0, .int .i64 a0_1, .slice A0_2 l0_2.length c0_2], .agg #[.int .i64 t175, .int .i64 t176, .slice Ao86 y232.length co86], .bool (decide (t235 < 0))] (by rfl) rfl rfl (by (try simp only [List.map_toArray, List.map_cons, List.map_nil]); first | done | rfl | (simp only [List.length_drop, List.length_take]; rfl)) ?_
                  with_reducible refine (spec_l10Ends.calls k1 a0_0 a0_1 _ _ l0_2 t175 t176 (fun k_ => some k_ = (.slice Ao86 y232.length co86 : Value).ownBlock) (.slice Ao86 y232.length co86) y232 (decide (t235 < 0)) t236 t237 t238 t241 w _ ?side1 ?side2 ?side3 ?side4 A66.out).mono ?_
                  (case side1 => repeat (first | (with_reducible first | exact HB.out | apply bA_ | apply bN_ | apply bD_ | refine bS_ ?_ GE173.out | refine bS_ ?_ GE174.out | refine bS_ ?_ GE180.out) | exact HB.out))
                  (case side2 => exact Kd.C_kept_came k48_heap HR0_2.out (by repeat (first | (with_reducible first | exact HB.out | apply bA_ | apply bN_ | apply bD_ | refine bS_ ?_ GE173.out | refine bS_ ?_ GE174.out | refine bS_ ?_ GE180.out) | exact HB.out)) (fun k_ hs_ => (fun e_ => Kd.R_base HO234.out k_ e_.symm) hs_))
                  (case side3 => exact HC0_2.out)
                  (case side4 => exact Kd.R_tight rfl HO234.out)
                  rintro e w91 ⟨v239, rfl, ho0, hb, hkp⟩
                  refine ⟨_, rfl, ?_⟩
                  have n0_ := As_ (Kd.R_mono (ok' := fun k_ => some k_ ≠ (.slice Ao79 y222.length co79 : Value).ownBlock ∧ some k_ ≠ (v239 : Value).ownBlock) (Kd.R_keptB (HO_181002.out) hkp (fun k_ hk_ hs_ => (hk_.2) hs_)) (fun k_ hk_ => ⟨hk_.1.1, fun e_ => Or.elim (ho0.1 k_ e_.symm) (fun hs_ => hk_.2.1 hs_) (fun hn_ => Nat.not_le.2 hk_.2.2 hn_)⟩))
                  replace BK173 := As_ (blk_kept (by (with_reducible repeat (first | apply kN_ | apply kD_ | apply kA_)); exact BK173.out) hkp (fun hs_ => (fun e_ => (Kd.R_ne HO234.out BK173.out (by decide)) e_) hs_))
                  replace BK174 := As_ (blk_kept (by (with_reducible repeat (first | apply kN_ | apply kD_ | apply kA_)); exact BK174.out) hkp (fun hs_ => (fun e_ => (Kd.R_ne HO234.out BK174.out (by decide)) e_) hs_))
                  replace BK180 := As_ (blk_kept (by (with_reducible repeat (first | apply kN_ | apply kD_ | apply kA_)); exact BK180.out) hkp (fun hs_ => (fun e_ => (Kd.R_ne HO234.out BK180.out (by decide)) e_) hs_))
                  have n4_ := As_ (Kd.R_mono (ok' := fun k_ => some k_ ≠ (.slice Ao13 t177.length co13 : Value).ownBlock ∧ some k_ ≠ (v239 : Value).ownBlock) (Kd.R_keptB (HO224.out) hkp (fun k_ hk_ hs_ => (hk_.2) hs_)) (fun k_ hk_ => ⟨hk_.1.1, fun e_ => Or.elim (ho0.1 k_ e_.symm) (fun hs_ => hk_.2.1 hs_) (fun hn_ => Nat.not_le.2 hk_.2.2 hn_)⟩))
                  have HO240 := As_ (Kd.R_mono (ok' := fun k_ => some k_ ≠ (.slice Ao13 t177.length co13 : Value).ownBlock ∧ some k_ ≠ (.slice Ao79 y222.length co79 : Value).ownBlock) ho0 (fun k_ hk_ => ⟨Or.elim hk_ (fun hs_ => fun e_ => (((HO_181002.out).1 k_ e_.symm).2) hs_) (fun hn_ => (Kd.fresh' (Kd.R_lt (by (with_reducible repeat (first | apply rA_ | apply rN_ | apply rD_)); exact HO_181002.out)) k_ hn_)), Or.elim hk_ (fun hs_ => fun e_ => (((HO224.out).1 k_ e_.symm).2) hs_) (fun hn_ => (Kd.fresh' (Kd.R_lt (by (with_reducible repeat (first | apply rA_ | apply rN_ | apply rD_)); exact HO224.out)) k_ hn_))⟩))
                  replace HB := As_ (hb)
                  clear HO_181002 HO224 HO234
                  have HO_181002 := n0_
                  have HO224 := n4_
                  clear n0_ n4_
                  (try clear hb)
                  (try clear hkp)
                  (try clear ho0)
                  obtain ⟨Ao94, co94, eo94⟩ := Kd.R_slice HO240.out
                  (first | subst eo94 | (injection eo94 with f1_ f2_ f3_; have f4_ := f1_.symm; have f5_ := f3_.symm; clear f1_ f2_ f3_; subst f4_; subst f5_))
                  refine hK.out _ _ ⟨(blk_cell BK173.out 0).trans rfl, (blk_cell BK173.out 1).trans rfl, (blk_cell BK173.out 2).trans rfl, (blk_cell BK180.out 0).trans rfl, (blk_cell BK180.out 1).trans rfl, (blk_cell BK180.out 2).trans rfl⟩ (fun hHeld => ?_)
                  clear hK K
                  refine norm_ (a' := ?_) ?_ ?_
                  rotate_left
                  · show Act.put _ (some 54) _ = _
                    simp only [Act.put, List.setIfInBounds_toArray, List.set_cons_zero, List.set_cons_succ, i64_w, i32_w]
                    rfl
                  refine pure_ (i := 7) (N := some 55) (v := ?_) (a' := ?_) #[true, true, true, true, true, true, true, true, false, false, false] rfl rfl (any_of HT_.out (by kernel_rfl)) (fun _ _ _ h => h) (Or.inl ⟨by rfl, ?_⟩) ?_ ?_
                  rotate_left
                  · intro w'
                    go_simp
                    with_reducible rfl
                  rotate_left
                  · simp only [Act.put, List.setIfInBounds_toArray, List.set_cons_zero, List.set_cons_succ, i64_w, i32_w]
                    rfl
                  refine pure_ (i := 8) (N := some 56) (v := ?_) (a' := ?_) #[true, true, true, true, true, true, true, true, true, false, false] rfl rfl (any_of HT_.out (by kernel_rfl)) (fun _ _ _ h => h) (Or.inl ⟨by rfl, ?_⟩) ?_ ?_
                  rotate_left
                  · intro w'
                    go_simp
                    with_reducible rfl
                  rotate_left
                  · simp only [Act.put, List.setIfInBounds_toArray, List.set_cons_zero, List.set_cons_succ, i64_w, i32_w]
                    rfl
                  refine one_ (i := 9) (N := none) #[true, true, true, true, true, true, true, true, true, true, false] rfl rfl (one_of HT_.out (by kernel_rfl)) (by decide) (fun K hK => ?_)
                  have hs92 : w91.cell? ⟨gb174, 0, none⟩ = some (.int .i64 0) := (blk_cell BK174.out 0).trans rfl
                  have hfs92 := blk_frozen BK174.out 0
                  have hns92_0 := NB173_174.out
                  have hns92_2 := NB180_174.out
                  have hms92_0 := NB174_173.out
                  have hms92_2 := NB174_180.out
                  have hs93 : w91.cell? ⟨gb174, 1, none⟩ = some (.int .i64 0) := (blk_cell BK174.out 1).trans rfl
                  have hfs93 := blk_frozen BK174.out 1
                  have hns93_0 := NB173_174.out
                  have hns93_2 := NB180_174.out
                  have hms93_0 := NB174_173.out
                  have hms93_2 := NB174_180.out
                  have hs95 : w91.cell? ⟨gb174, 2, none⟩ = some (.slice none 0 0) := (blk_cell BK174.out 2).trans rfl
                  have hfs95 := blk_frozen BK174.out 2
                  have hns95_0 := NB173_174.out
                  have hns95_2 := NB180_174.out
                  have hms95_0 := NB174_173.out
                  have hms95_2 := NB174_180.out
                  refine skip_ (w1 := ?_) (by rfl) rfl ?_ ?_
                  rotate_left
                  · go_simp
                    rfl
                  refine hK.out _ _ ⟨((cell_far (p := ⟨gb174, _, none⟩) NB173_174.out _).trans (((cell_far (p := ⟨gb174, _, none⟩) NB173_174.out _).trans (((cell_far (p := ⟨gb174, _, none⟩) NB173_174.out _).trans (hHeld.1)))))), ((cell_far (p := ⟨gb174, _, none⟩) NB173_174.out _).trans (((cell_far (p := ⟨gb174, _, none⟩) NB173_174.out _).trans (((cell_far (p := ⟨gb174, _, none⟩) NB173_174.out _).trans (hHeld.2.1)))))), ((cell_far (p := ⟨gb174, _, none⟩) NB173_174.out _).trans (((cell_far (p := ⟨gb174, _, none⟩) NB173_174.out _).trans (((cell_far (p := ⟨gb174, _, none⟩) NB173_174.out _).trans (hHeld.2.2.1)))))), ((cell_far (p := ⟨gb174, _, none⟩) NB180_174.out _).trans (((cell_far (p := ⟨gb174, _, none⟩) NB180_174.out _).trans (((cell_far (p := ⟨gb174, _, none⟩) NB180_174.out _).trans (hHeld.2.2.2.1)))))), ((cell_far (p := ⟨gb174, _, none⟩) NB180_174.out _).trans (((cell_far (p := ⟨gb174, _, none⟩) NB180_174.out _).trans (((cell_far (p := ⟨gb174, _, none⟩) NB180_174.out _).trans (hHeld.2.2.2.2.1)))))), ((cell_far (p := ⟨gb174, _, none⟩) NB180_174.out _).trans (((cell_far (p := ⟨gb174, _, none⟩) NB180_174.out _).trans (((cell_far (p := ⟨gb174, _, none⟩) NB180_174.out _).trans (hHeld.2.2.2.2.2))))))⟩ (fun hHeld => ?_)
                  clear hK K
                  refine pure_ (i := 10) (N := some 5) (v := ?_) (a' := ?_) #[true, true, true, true, true, true, true, true, true, true, true] rfl rfl (any_of HT_.out (by kernel_rfl)) (fun _ _ _ h => h) (Or.inl ⟨by rfl, ?_⟩) ?_ ?_
                  rotate_left
                  · intro w'
                    go_simp
                    with_reducible rfl
                  rotate_left
                  · simp only [Act.put, List.setIfInBounds_toArray, List.set_cons_zero, List.set_cons_succ, i64_w, i32_w]
                    rfl
                  refine done_ (done_of HT_.out (by kernel_rfl)) ?_
                  try go_wp2
                  refine bodyPost_ret (results_ct rfl _ _ gb174 24 #[.int .i64 t236, .int .i64 t237, .slice Ao94 t238.length co94] (0, 0) _ rfl (by (with_reducible repeat (first | apply kN_ | apply kD_ | apply kA_)); refine blk_put (cs := #[.int .i64 t236, .int .i64 t237, .slice none 0 0]) ?_ 2 _ rfl; (with_reducible repeat (first | apply kN_ | apply kD_ | apply kA_)); refine blk_put (cs := #[.int .i64 t236, .int .i64 0, .slice none 0 0]) ?_ 1 _ rfl; (with_reducible repeat (first | apply kN_ | apply kD_ | apply kA_)); refine blk_put (cs := #[.int .i64 0, .int .i64 0, .slice none 0 0]) ?_ 0 _ rfl; (with_reducible repeat (first | apply kN_ | apply kD_ | apply kA_)); exact BK174.out) Try.underlying24 rfl (by kernel_rfl)) rfl ?_
                  exact ⟨_, by first | rfl | (simp [errW_none, errW_some] <;> rfl) | (simp [*, errW_none, errW_some] <;> rfl), by (with_reducible repeat (first | apply rA_ | apply rN_ | apply rD_)); exact Kd.R_mono (Kd.R_far (p := ⟨gb174, 2, none⟩) (Kd.R_far (p := ⟨gb174, 1, none⟩) (Kd.R_far (p := ⟨gb174, 0, none⟩) (Kd.R_types HO240.out BK174.out (by decide)) (fun _ hk => hk.2) (.int .i64 t236)) (fun _ hk => hk.2) (.int .i64 t237)) (fun _ hk => hk.2) (.slice Ao94 t238.length co94)) (fun _ hk => trivial), by repeat (first | (with_reducible first | exact HB.out | apply bA_ | apply bN_ | apply bD_ | refine bS_ ?_ GE173.out | refine bS_ ?_ GE174.out | refine bS_ ?_ GE180.out) | exact HB.out)⟩
                · rw [if_neg c64] at H
                  exact absurd H (by simp)
              · rw [if_neg c61] at H
                exact absurd H (by simp)
            · rw [if_neg c60] at H
              exact absurd H (by simp)
          · rw [if_neg c59] at H
            exact absurd H (by simp)
        · rw [if_neg c58] at H
          exact absurd H (by simp)

end Go.Proofs.Ytejnagdmfooemaa.QFnExactOpenLane
