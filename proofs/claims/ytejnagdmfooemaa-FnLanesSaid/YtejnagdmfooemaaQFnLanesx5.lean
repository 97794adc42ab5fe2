/- Contracts of functions of the translation, each with its pure function; printed by a program of this session (wip/pr.py) over the kit's print; no condition of its own. -/
import Derived.Test.YtejnagdmfooemaaQFnLanesx0
import Derived.Test.YtejnagdmfooemaaQFnLanesx1
import Derived.Test.YtejnagdmfooemaaQFnLanesx2
import Derived.Test.YtejnagdmfooemaaQFnLanesx4
namespace Go.Proofs.Ytejnagdmfooemaa.QFnLanes
open Go.RowKit Go.Proofs.YtejnagdmfooemaaW.PrintWords Go.Proofs.YtejnagdmfooemaaW.PrintLast Go.Proofs.YtejnagdmfooemaaW.PrintMore
attribute [local go_sem] max2_int min2_int max_two min_two max_three min_three max_four min_four   -- for this text's walks alone
set_option linter.unusedVariables false
set_option linter.unusedSimpArgs false

/-! ### spec_OpenLane: function 34 -/
mutual
def spec_OpenLane.j1 : Nat → Int → Int → Int → Int → List (S48) → Int → Int → List (S48) → Option (Int × Int × (List (S48)) × Bool)
  | 0, _, _, _, _, _, _, _, _ => none
  | k + 1, x1, x7, x209000, x209001, x209002, x216000, x216001, x216002 => (some (([] : List (S48)) : List (S48))).bind fun y217 => (if 0 ≤ x7 then (if x7 ≤ (x209002.length : Int) then ((some (x209002.take (x7 : Int).toNat : List (S48))).bind fun y220 => (if y217.length + y220.length < 8796093022208 then ((some (y217 ++ y220 : List (S48))).bind fun y224 => ((some (([(⟨x1, x209001⟩ : S48)] : List (S48)) : List (S48))).bind fun y227 => (if y224.length + y227.length < 8796093022208 then ((some (y224 ++ y227 : List (S48))).bind fun y230 => ((some (x209002.drop (x7 : Int).toNat : List (S48))).bind fun y233 => (if y230.length + y233.length < 8796093022208 then ((spec_l10At.f k x209000 x209001 x209002 x1).bind fun t240 => ((spec_l10Ends.f k x209000 x209001 x209002 x216000 x216001 (y230 ++ y233) (decide (t240 < 0))).bind fun bt241 => (some (bt241.1, bt241.2.1, bt241.2.2.1, bt241.2.2.2)))) else (none)))) else (none)))) else (none))) else (none)) else (none))
def spec_OpenLane.l0 : Nat → Int → Int → Int → Int → List (S48) → Int → Int → List (S48) → Option (Int × Int × (List (S48)) × Bool)
  | 0, _, _, _, _, _, _, _, _ => none
  | k + 1, x1, x7, x209000, x209001, x209002, x216000, x216001, x216002 => if x7 < (x209002.length : Int) then (if 0 ≤ x7 then (if ((rd_T48 x209002 x7).f0) < x1 then (spec_OpenLane.l0 k x1 (wrap64 (x7 + 1)) x209000 x209001 x209002 x216000 x216001 x216002) else (spec_OpenLane.j1 k x1 x7 x209000 x209001 x209002 x216000 x216001 x216002)) else (none)) else (spec_OpenLane.j1 k x1 x7 x209000 x209001 x209002 x216000 x216001 x216002)
end
def spec_OpenLane.f (k : Nat) (a0_0 : Int) (a0_1 : Int) (l0_2 : List (S48)) (a1 : Int) : Option (Int × Int × (List (S48)) × Bool) := (spec_l10Copy.f a0_0 a0_1 l0_2).bind fun bt210 => (spec_OpenLane.l0 k a1 0 a0_0 a0_1 l0_2 bt210.1 bt210.2.1 bt210.2.2)
theorem spec_OpenLane.mono_l : ∀ k, (∀ y0 y1 y2 y3 y4 y5 y6 y7, LeO (spec_OpenLane.j1 k y0 y1 y2 y3 y4 y5 y6 y7) (spec_OpenLane.j1 (k + 1) y0 y1 y2 y3 y4 y5 y6 y7)) ∧ (∀ y0 y1 y2 y3 y4 y5 y6 y7, LeO (spec_OpenLane.l0 k y0 y1 y2 y3 y4 y5 y6 y7) (spec_OpenLane.l0 (k + 1) y0 y1 y2 y3 y4 y5 y6 y7))
  | 0 => ⟨fun _ _ _ _ _ _ _ _ r h => by simp [spec_OpenLane.j1] at h, fun _ _ _ _ _ _ _ _ r h => by simp [spec_OpenLane.l0] at h⟩
  | k + 1 => by
    obtain ⟨ih0, ih1⟩ := spec_OpenLane.mono_l k
    refine ⟨?_, ?_⟩
    · intro y0 y1 y2 y3 y4 y5 y6 y7
      unfold spec_OpenLane.j1
      repeat' first
      | (with_reducible exact ih0 _ _ _ _ _ _ _ _)
      | (with_reducible exact ih1 _ _ _ _ _ _ _ _)
      | (with_reducible exact spec_l10At.mono _ _ _ _ _)
      | (with_reducible exact spec_l10Ends.mono _ _ _ _ _ _ _ _)
      | (with_reducible exact LeO.refl _)
      | (with_reducible exact LeO.none _)
      | (with_reducible refine LeO.ite ?_ ?_)
      | (with_reducible refine LeO.bind ?_ (fun _ => ?_))
      | exact ih0 _ _ _ _ _ _ _ _
      | exact ih1 _ _ _ _ _ _ _ _
      | exact spec_l10At.mono _ _ _ _ _
      | exact spec_l10Ends.mono _ _ _ _ _ _ _ _
      | exact LeO.none _
      | refine LeO.ite ?_ ?_
      | refine LeO.bind ?_ (fun _ => ?_)
    · intro y0 y1 y2 y3 y4 y5 y6 y7
      unfold spec_OpenLane.l0
      repeat' first
      | (with_reducible exact ih0 _ _ _ _ _ _ _ _)
      | (with_reducible exact ih1 _ _ _ _ _ _ _ _)
      | (with_reducible exact spec_l10At.mono _ _ _ _ _)
      | (with_reducible exact spec_l10Ends.mono _ _ _ _ _ _ _ _)
      | (with_reducible exact LeO.refl _)
      | (with_reducible exact LeO.none _)
      | (with_reducible refine LeO.ite ?_ ?_)
      | (with_reducible refine LeO.bind ?_ (fun _ => ?_))
      | exact ih0 _ _ _ _ _ _ _ _
      | exact ih1 _ _ _ _ _ _ _ _
      | exact spec_l10At.mono _ _ _ _ _
      | exact spec_l10Ends.mono _ _ _ _ _ _ _ _
      | exact LeO.none _
      | refine LeO.ite ?_ ?_
      | refine LeO.bind ?_ (fun _ => ?_)
theorem spec_OpenLane.mono : ∀ a0 a1 a2 a3 k, LeO (spec_OpenLane.f k a0 a1 a2 a3) (spec_OpenLane.f (k + 1) a0 a1 a2 a3) := by
  intro a0 a1 a2 a3 k
  obtain ⟨ih0, ih1⟩ := spec_OpenLane.mono_l k
  unfold spec_OpenLane.f
  repeat' first
      | (with_reducible exact ih0 _ _ _ _ _ _ _ _)
      | (with_reducible exact ih1 _ _ _ _ _ _ _ _)
      | (with_reducible exact spec_l10At.mono _ _ _ _ _)
      | (with_reducible exact spec_l10Ends.mono _ _ _ _ _ _ _ _)
      | (with_reducible exact LeO.refl _)
      | (with_reducible exact LeO.none _)
      | (with_reducible refine LeO.ite ?_ ?_)
      | (with_reducible refine LeO.bind ?_ (fun _ => ?_))
      | exact ih0 _ _ _ _ _ _ _ _
      | exact ih1 _ _ _ _ _ _ _ _
      | exact spec_l10At.mono _ _ _ _ _
      | exact spec_l10Ends.mono _ _ _ _ _ _ _ _
      | exact LeO.none _
      | refine LeO.ite ?_ ?_
      | refine LeO.bind ?_ (fun _ => ?_)
def spec_OpenLane.T5 : Bool × List (List Nat × List Nat) := (true, [([], []), ([], []), ([1], [1]), ([], []), ([2, 3], [2, 3]), ([0, 4], [0, 4]), ([], []), ([], []), ([7], [7]), ([6, 8], [6, 8]), ([9], [9]), ([5, 10, 5], [5, 10]), ([0, 1, 2, 3, 4, 5, 6, 7, 8, 9, 10, 11], []), ([12, 11, 11, 0, 1, 2, 3, 4, 5, 6, 7, 8, 9, 10, 11], [11, 12])])
def spec_OpenLane.B5 : List Nat := [0, 0, 2, 0, 14, 31, 0, 0, 128, 448, 960, 2047, 4095, 8191]
theorem spec_OpenLane.tab5 : rtab .any (opsOf Try.f34 5) = spec_OpenLane.T5 := by kernel_rfl
theorem spec_OpenLane.bits5 : waitsOk spec_OpenLane.T5.2 spec_OpenLane.B5 = true := by kernel_rfl
def spec_OpenLane.T6 : Bool × List (List Nat × List Nat) := (true, [([], []), ([0], [0]), ([], []), ([2], [2]), ([], []), ([3, 4], [3, 4]), ([1, 5], [1, 5]), ([0, 1, 2, 3, 4, 5, 6], []), ([7, 6, 6, 0, 1, 2, 3, 4, 5, 6], [6, 7])])
def spec_OpenLane.B6 : List Nat := [0, 1, 0, 4, 0, 28, 63, 127, 255]
theorem spec_OpenLane.tab6 : rtab .any (opsOf Try.f34 6) = spec_OpenLane.T6 := by kernel_rfl
theorem spec_OpenLane.bits6 : waitsOk spec_OpenLane.T6.2 spec_OpenLane.B6 = true := by kernel_rfl
def spec_OpenLane.T7 : Bool × List (List Nat × List Nat) := (true, [([], []), ([], []), ([], []), ([], []), ([2, 3], [2, 3]), ([4], [4]), ([0, 1, 5, 4], [0, 1, 5]), ([6], [6]), ([6], [6]), ([7, 6, 0, 1, 2, 3, 4, 5, 6, 7, 8], [7]), ([8, 9, 0, 1, 2, 3, 4, 5, 6, 7, 8, 9], [8])])
def spec_OpenLane.B7 : List Nat := [0, 0, 0, 0, 12, 28, 63, 127, 127, 511, 1023]
theorem spec_OpenLane.tab7 : rtab .any (opsOf Try.f34 7) = spec_OpenLane.T7 := by kernel_rfl
theorem spec_OpenLane.bits7 : waitsOk spec_OpenLane.T7.2 spec_OpenLane.B7 = true := by kernel_rfl
set_option maxHeartbeats 8000000 in
set_option maxRecDepth 100000 in
theorem spec_OpenLane.calls (k : Nat) (a0_0 : Int) (a0_1 : Int) (A0_2 : Option Addr) (c0_2 : Nat) (l0_2 : List (S48)) (a1 : Int) (r1 : Int) (r2 : Int) (r3 : List (S48)) (r4 : Bool) (w : World) (hr0_2 : Kd.C k48 w A0_2 l0_2.length l0_2) (hc0_2 : l0_2.length ≤ c0_2) (h : spec_OpenLane.f k a0_0 a0_1 l0_2 a1 = some (r1, r2, r3, r4)) :
    Calls Try.prog 34 #[.agg #[.int .i64 a0_0, .int .i64 a0_1, .slice A0_2 l0_2.length c0_2], .int .i64 a1] w fun e w' => ∃ v2_ : Value, e = .returned (.tuple #[.agg #[.int .i64 r1, .int .i64 r2, v2_], .bool r4]) ∧ Kd.R k48 48 w' w.heap.size (fun _ => True) v2_ r3 ∧ Below w.heap.size w w' := by
  have hu24 := Try.underlying24
  have hu48 := Try.underlying48
  have HR0_2 := Aside0.mk hr0_2
  have HC0_2 := Aside0.mk hc0_2
  clear hr0_2 hc0_2
  have HB := As_ (Below.refl w.heap.size w)
  have H : ((spec_l10Copy.f a0_0 a0_1 l0_2).bind fun bt210 => (spec_OpenLane.l0 k a1 0 a0_0 a0_1 l0_2 bt210.1 bt210.2.1 bt210.2.2)) = some (r1, r2, r3, r4) := h
  clear h
  replace H := Option.bind_eq_some_iff.mp H
  obtain ⟨⟨t210, t211, t212⟩, A30, H⟩ := H
  replace H : (spec_OpenLane.l0 k a1 0 a0_0 a0_1 l0_2 t210 t211 t212) = some (r1, r2, r3, r4) := H
  have A3 := Aside0.mk A30
  clear A30
  have HC4 := Aside0.mk H
  clear H
  go_enter Try.func34, Try.ntmps34
  go_upto_block 0 with (first | ((with_reducible refine gate_dst (N := 2) rfl ?_); refine box_event ?hg (N := 2) ?hd (cs := #[.int .i64 a0_0, .int .i64 a0_1, .slice A0_2 l0_2.length c0_2]) (t := 24) ?hr ?_; (case hd => rfl); (case hg => rfl); (case hr => first | (go_simp; done) | (go_simp; rfl)); intro gb208 hg w5 hbox hb; have n0_ := As_ (below_step (zb0_ HB.out) hb); have n1_ := As_ (hbox); have n2_ := As_ ((sb_ hg (zb0_ HB.out) : w.heap.size ≤ gb208)); have n3_ := As_ ((sb_ hg (zb0_ HB.out) : w.heap.size ≤ gb208)); clear HB; have HB := n0_; have BK208 := n1_; have GW208 := n2_; have GE208 := n3_; clear n0_ n1_ n2_ n3_ hb hbox hg) | ((with_reducible refine gate_dst (N := 4) rfl ?_); refine box_event ?hg (N := 4) ?hd (cs := #[.int .i64 0, .int .i64 0, .slice none 0 0]) (t := 24) ?hr ?_; (case hd => rfl); (case hg => rfl); (case hr => first | (go_simp; done) | (go_simp; rfl)); intro gb209 hg w6 hbox hb; have n0_ := As_ (blk_below (g := gb208) (o := .cells #[.int .i64 a0_0, .int .i64 a0_1, .slice A0_2 l0_2.length c0_2] 24 (0, 0)) (ak_ BK208.out) hb); have n1_ := As_ (below_step (zb1_ HB.out GE208.out) hb); have n2_ := As_ (hbox); have n3_ := As_ ((sb_ hg (zb1_ HB.out GE208.out) : w.heap.size ≤ gb209)); have n4_ := As_ ((sb_ hg (zb1_ HB.out GE208.out) : w.heap.size ≤ gb209)); have n5_ := As_ ((nl_ hg BK208.out : gb208 ≠ gb209)); have n6_ := As_ ((ng_ hg BK208.out : gb209 ≠ gb208)); clear BK208 HB; have BK208 := n0_; have HB := n1_; have BK209 := n2_; have GW209 := n3_; have GE209 := n4_; have NB208_209 := n5_; have NB209_208 := n6_; clear n0_ n1_ n2_ n3_ n4_ n5_ n6_ hb hbox hg; have hnb7 := NB208_209.out; have hnc7 := NB209_208.out; obtain ⟨hcz8_0, hcz8_1, hcz8_2, hfz8_0, hfz8_1, hfz8_2⟩ := blk_all3 BK208.out) | ((with_reducible refine gate_callee (f := 47) rfl ?_); refine goesL_ (some 9) rfl rfl Try.func47 (by kernel_rfl) rfl #[.agg #[.int .i64 a0_0, .int .i64 a0_1, .slice A0_2 l0_2.length c0_2]] rfl tm_ ?_; (with_reducible refine (spec_l10Copy.calls a0_0 a0_1 _ _ l0_2 t210 t211 t212 _ ?side1 ?side2 A3.out).mono ?_); (case side1 => repeat (first | exact (Kd.C_below HR0_2.out HB.out) | (with_reducible first | apply cA_ | apply cN_ | apply cD_))); (case side2 => exact HC0_2.out); rintro e w9 ⟨v213, rfl, ho0, hb⟩; refine ⟨_, rfl, ?_⟩; have HO214 := As_ (Kd.R_lower ho0 (below_size (zb2_ HB.out GE208.out GE209.out))); replace BK208 := As_ (blk_below (g := gb208) (o := .cells #[.int .i64 a0_0, .int .i64 a0_1, .slice A0_2 l0_2.length c0_2] 24 (0, 0)) (ak_ BK208.out) hb); replace BK209 := As_ (blk_below (g := gb209) (o := .cells #[.int .i64 0, .int .i64 0, .slice none 0 0] 24 (0, 0)) (ak_ BK209.out) hb); replace HB := As_ (below_step (zb2_ HB.out GE208.out GE209.out) hb); (try clear hb); (try clear hb2); (try clear hk); (try clear hi); (try clear ho0)) | ((with_reducible refine gate_dst (N := 6) rfl ?_); refine box_event ?hg (N := 6) ?hd (cs := #[.int .i64 0, .int .i64 0, .slice none 0 0]) (t := 24) ?hr ?_; (case hd => rfl); (case hg => rfl); (case hr => first | (go_simp; done) | (go_simp; rfl)); intro gb215 hg w10 hbox hb; have n0_ := As_ (Kd.R_below (rk_ HO214.out) hb); have n1_ := As_ (blk_below (g := gb208) (o := .cells #[.int .i64 a0_0, .int .i64 a0_1, .slice A0_2 l0_2.length c0_2] 24 (0, 0)) (ak_ BK208.out) hb); have n2_ := As_ (blk_below (g := gb209) (o := .cells #[.int .i64 0, .int .i64 0, .slice none 0 0] 24 (0, 0)) (ak_ BK209.out) hb); have n3_ := As_ (below_step (zb2_ HB.out GE208.out GE209.out) hb); have n4_ := As_ (hbox); have n5_ := As_ ((sb_ hg (zb2_ HB.out GE208.out GE209.out) : w.heap.size ≤ gb215)); have n6_ := As_ ((sb_ hg (zb2_ HB.out GE208.out GE209.out) : w.heap.size ≤ gb215)); have n7_ := As_ ((nl_ hg BK208.out : gb208 ≠ gb215)); have n8_ := As_ ((ng_ hg BK208.out : gb215 ≠ gb208)); have n9_ := As_ ((nl_ hg BK209.out : gb209 ≠ gb215)); have n10_ := As_ ((ng_ hg BK209.out : gb215 ≠ gb209)); clear HO214 BK208 BK209 HB; have HO214 := n0_; have BK208 := n1_; have BK209 := n2_; have HB := n3_; have BK215 := n4_; have GW215 := n5_; have GE215 := n6_; have NB208_215 := n7_; have NB215_208 := n8_; have NB209_215 := n9_; have NB215_209 := n10_; clear n0_ n1_ n2_ n3_ n4_ n5_ n6_ n7_ n8_ n9_ n10_ hb hbox hg; have hnb11 := NB215_208.out; have hnc11 := NB208_215.out; have hnb12 := NB215_209.out; have hnc12 := NB209_215.out; obtain ⟨hcz13_0, hcz13_1, hcz13_2, hfz13_0, hfz13_1, hfz13_2⟩ := blk_all3 BK215.out; obtain ⟨Ao14, co14, eo14⟩ := Kd.R_slice HO214.out; subst eo14))
  (try simp only [Act.put, List.setIfInBounds_toArray, List.set_cons_zero, List.set_cons_succ])
  go_cut [7] (fun v7 wc => ∃ (kq : Nat) (x7_3 : Int), v7 = .int .i64 x7_3 ∧ Aside0 (spec_OpenLane.j1 kq a1 x7_3 a0_0 a0_1 l0_2 t210 t211 t212 = some (r1, r2, r3, r4)) ∧ Aside0 (kq ≤ k) ∧ Aside0 (Kd.R k48 48 wc w.heap.size (fun _ => True) (.slice Ao14 t212.length co14) t212) ∧ Aside0 (wc.heap[gb208]? = some (.cells #[.int .i64 a0_0, .int .i64 a0_1, (.slice A0_2 l0_2.length c0_2)] 24 (0, 0))) ∧ Aside0 (wc.heap[gb209]? = some (.cells #[.int .i64 0, .int .i64 0, (.slice none 0 0)] 24 (0, 0))) ∧ Aside0 (wc.heap[gb215]? = some (.cells #[.int .i64 t210, .int .i64 t211, (.slice Ao14 t212.length co14)] 24 (0, 0))) ∧ Aside0 (Below w.heap.size w wc))
  case first =>
    have H := HC4.out
    clear HC4
    have H' := Aside0.mk H
    clear H
    go_wp2
    go_loopg [7] k (fun kq v7 w' => ∃ (x7_1 : Int), v7 = .int .i64 x7_1 ∧ Aside0 (spec_OpenLane.l0 kq a1 x7_1 a0_0 a0_1 l0_2 t210 t211 t212 = some (r1, r2, r3, r4)) ∧ Aside0 (kq ≤ k) ∧ Aside0 (Kd.R k48 48 w' w.heap.size (fun _ => True) (.slice Ao14 t212.length co14) t212) ∧ Aside0 (w'.heap[gb208]? = some (.cells #[.int .i64 a0_0, .int .i64 a0_1, (.slice A0_2 l0_2.length c0_2)] 24 (0, 0))) ∧ Aside0 (w'.heap[gb209]? = some (.cells #[.int .i64 0, .int .i64 0, (.slice none 0 0)] 24 (0, 0))) ∧ Aside0 (w'.heap[gb215]? = some (.cells #[.int .i64 t210, .int .i64 t211, (.slice Ao14 t212.length co14)] 24 (0, 0))) ∧ Aside0 (Below w.heap.size w w'))
    case atStart => exact ⟨(0), (by first | rfl | (simp; done) | (simp [*]; done)), H', ⟨Nat.le_refl _⟩, ⟨rt3_ HO214.out BK215.out⟩, ⟨af_ NB208_215.out BK208.out⟩, ⟨af_ NB209_215.out BK209.out⟩, ⟨ap_ BK215.out⟩, ⟨zb3_ HB.out GE208.out GE209.out GE215.out⟩⟩
    case round =>
      clear H'
      try clear c1
      try clear p2
      try clear c3
      try clear c4
      try clear c7
      try clear c11
      try clear c12
      try clear hcz13_0
      try clear hcz13_1
      try clear hcz13_2
      try clear hcz8_0
      try clear hcz8_1
      try clear hcz8_2
      try clear hfz13_0
      try clear hfz13_1
      try clear hfz13_2
      try clear hfz8_0
      try clear hfz8_1
      try clear hfz8_2
      obtain ⟨x7_1, rfl, HA, HK1, HO_216002, BK208, BK209, BK215, HB⟩ := hrel
      cases gk with
      | zero => exact absurd HA.out (by simp [spec_OpenLane.l0])
      | succ k1 =>
        have H := HA.out
        clear HA
        simp only [spec_OpenLane.l0] at H
        by_cases c15 : x7_1 < (l0_2.length : Int)
        · rw [if_pos c15] at H
          have c15b0 : decide (x7_1 < (l0_2.length : Int)) = true := decide_eq_true c15
          clear c15
          (first | rw [c15b0] | (simp only [i64_w, i32_w]; rw [c15b0]) | skip)
          by_cases c16 : 0 ≤ x7_1
          · rw [if_pos c16] at H
            have c16b0 : decide (0 ≤ x7_1) = true := decide_eq_true c16
            clear c16
            by_cases c17 : ((rd_T48 l0_2 x7_1).f0) < a1
            · rw [if_pos c17] at H
              have c17b0 : decide (((rd_T48 l0_2 x7_1).f0) < a1) = true := decide_eq_true c17
              clear c17
              have H' := Aside0.mk H
              clear H
              have hnb18 := NB208_209.out
              have hnc18 := NB209_208.out
              have hnb19 := NB208_215.out
              have hnc19 := NB215_208.out
              obtain ⟨hcz20_0, hcz20_1, hcz20_2, hfz20_0, hfz20_1, hfz20_2⟩ := blk_all3 BK208.out
              have p216 : 0 ≤ (x7_1 : Int) := of_decide_eq_true sm_
              have q216 : x7_1 < (l0_2.length : Int) := of_decide_eq_true sm_
              obtain ⟨ad216, e216, hx216_0, hx216_1⟩ := at_T48 HR0_2.out x7_1 p216 q216
              cases e216
              replace hx216_0 := (HB.out.cell (World.block_lt_of_cell? w _ hx216_0)).trans hx216_0
              replace hx216_1 := (HB.out.cell (World.block_lt_of_cell? w _ hx216_1)).trans hx216_1
              replace p216 := eq_true p216
              replace q216 := eq_true q216
              go_wp2
              go_roundg k1
              case measure => have := HK1.out; omega
              case rel => exact ⟨(wrap64 (x7_1 + 1)), (by first | rfl | (simp; done) | (simp [*]; done)), H', ⟨by have := HK1.out; omega⟩, ⟨rk_ HO_216002.out⟩, ⟨ak_ BK208.out⟩, ⟨ak_ BK209.out⟩, ⟨ak_ BK215.out⟩, ⟨zb3_ HB.out GE208.out GE209.out GE215.out⟩⟩
            · rw [if_neg c17] at H
              have c17b0 : decide (((rd_T48 l0_2 x7_1).f0) < a1) = false := decide_eq_false c17
              clear c17
              have H' := Aside0.mk H
              clear H
              have hnb21 := NB208_209.out
              have hnc21 := NB209_208.out
              have hnb22 := NB208_215.out
              have hnc22 := NB215_208.out
              obtain ⟨hcz23_0, hcz23_1, hcz23_2, hfz23_0, hfz23_1, hfz23_2⟩ := blk_all3 BK208.out
              have p216 : 0 ≤ (x7_1 : Int) := of_decide_eq_true sm_
              have q216 : x7_1 < (l0_2.length : Int) := of_decide_eq_true sm_
              obtain ⟨ad216, e216, hx216_0, hx216_1⟩ := at_T48 HR0_2.out x7_1 p216 q216
              cases e216
              replace hx216_0 := (HB.out.cell (World.block_lt_of_cell? w _ hx216_0)).trans hx216_0
              replace hx216_1 := (HB.out.cell (World.block_lt_of_cell? w _ hx216_1)).trans hx216_1
              replace p216 := eq_true p216
              replace q216 := eq_true q216
              go_wp2
              go_meet
              case rel => exact ⟨_, (x7_1), (by first | rfl | (simp; done) | (simp [*]; done)), H', ⟨by have := HK1.out; first | omega | exact Nat.le_refl _⟩, ⟨rk_ HO_216002.out⟩, ⟨ak_ BK208.out⟩, ⟨ak_ BK209.out⟩, ⟨ak_ BK215.out⟩, ⟨zb3_ HB.out GE208.out GE209.out GE215.out⟩⟩
          · rw [if_neg c16] at H
            exact absurd H (by simp)
        · rw [if_neg c15] at H
          have c15b0 : decide (x7_1 < (l0_2.length : Int)) = false := decide_eq_false c15
          clear c15
          (first | rw [c15b0] | (simp only [i64_w, i32_w]; rw [c15b0]) | skip)
          have H' := Aside0.mk H
          clear H
          have hnb24 := NB208_209.out
          have hnc24 := NB209_208.out
          have hnb25 := NB208_215.out
          have hnc25 := NB215_208.out
          obtain ⟨hcz26_0, hcz26_1, hcz26_2, hfz26_0, hfz26_1, hfz26_2⟩ := blk_all3 BK208.out
          go_wp2
          go_meet
          case rel => exact ⟨_, (x7_1), (by first | rfl | (simp; done) | (simp [*]; done)), H', ⟨by have := HK1.out; first | omega | exact Nat.le_refl _⟩, ⟨rk_ HO_216002.out⟩, ⟨ak_ BK208.out⟩, ⟨ak_ BK209.out⟩, ⟨ak_ BK215.out⟩, ⟨zb3_ HB.out GE208.out GE209.out GE215.out⟩⟩
  case rest =>
    clear HC4
    try clear c1
    try clear c2
    try clear p2
    try clear q2
    try clear hx2
    try clear c3
    try clear c4
    try clear p6
    try clear c7
    try clear c11
    try clear c12
    try clear c15
    try clear c15b0
    try clear c16
    try clear c16b0
    try clear c17
    try clear c17b0
    try clear c18
    try clear c19
    try clear c21
    try clear p21
    try clear q21
    try clear hx21
    try clear c22
    try clear c24
    try clear c25
    try clear hcz13_0
    try clear hcz13_1
    try clear hcz13_2
    try clear hcz20_0
    try clear hcz20_1
    try clear hcz20_2
    try clear hcz23_0
    try clear hcz23_1
    try clear hcz23_2
    try clear hcz26_0
    try clear hcz26_1
    try clear hcz26_2
    try clear hcz8_0
    try clear hcz8_1
    try clear hcz8_2
    try clear hfz13_0
    try clear hfz13_1
    try clear hfz13_2
    try clear hfz20_0
    try clear hfz20_1
    try clear hfz20_2
    try clear hfz23_0
    try clear hfz23_1
    try clear hfz23_2
    try clear hfz26_0
    try clear hfz26_1
    try clear hfz26_2
    try clear hfz8_0
    try clear hfz8_1
    try clear hfz8_2
    try clear hx216_0
    try clear hx216_1
    try clear p2
    try clear p216
    try clear q216
    obtain ⟨kq, x7_3, rfl, HA, HJ3, HO_216002, BK208, BK209, BK215, HB⟩ := hcut
    cases kq with
    | zero => exact absurd HA.out (by simp [spec_OpenLane.j1])
    | succ kj3 =>
      have H := HA.out
      clear HA
      simp only [spec_OpenLane.j1] at H
      obtain ⟨y217, hy217⟩ : ∃ y_ : List (S48), y_ = (([] : List (S48))) := ⟨_, rfl⟩
      replace H : (if 0 ≤ x7_3 then (if x7_3 ≤ (l0_2.length : Int) then ((some (l0_2.take (x7_3 : Int).toNat : List (S48))).bind fun y220 => (if y217.length + y220.length < 8796093022208 then ((some (y217 ++ y220 : List (S48))).bind fun y224 => ((some (([(⟨a1, a0_1⟩ : S48)] : List (S48)) : List (S48))).bind fun y227 => (if y224.length + y227.length < 8796093022208 then ((some (y224 ++ y227 : List (S48))).bind fun y230 => ((some (l0_2.drop (x7_3 : Int).toNat : List (S48))).bind fun y233 => (if y230.length + y233.length < 8796093022208 then ((spec_l10At.f kj3 a0_0 a0_1 l0_2 a1).bind fun t240 => ((spec_l10Ends.f kj3 a0_0 a0_1 l0_2 t210 t211 (y230 ++ y233) (decide (t240 < 0))).bind fun bt241 => (some (bt241.1, bt241.2.1, bt241.2.2.1, bt241.2.2.2)))) else (none)))) else (none)))) else (none))) else (none)) else (none)) = some (r1, r2, r3, r4) := by first | (rw [hy217]; with_reducible exact H) | (have H2_ := (Option.bind_some _ _).symm.trans H; rw [hy217]; with_reducible exact H2_) | (have H2_ := (Option.bind_some _ _).symm.trans H; with_reducible exact H2_) | with_reducible exact H | (rw [hy217]; exact H) | exact H
      have Ny217 := Aside0.mk hy217
      clear hy217
      by_cases c27 : 0 ≤ x7_3
      · rw [if_pos c27] at H
        have c27b0 := eq_true c27
        have c27b1 : decide (0 ≤ x7_3) = true := decide_eq_true c27
        clear c27
        by_cases c28 : x7_3 ≤ (l0_2.length : Int)
        · rw [if_pos c28] at H
          have c28b0 := eq_true c28
          have c28b1 : decide (x7_3 ≤ (l0_2.length : Int)) = true := decide_eq_true c28
          clear c28
          obtain ⟨y220, hy220⟩ : ∃ y_ : List (S48), y_ = (l0_2.take (x7_3 : Int).toNat) := ⟨_, rfl⟩
          replace H : (if y217.length + y220.length < 8796093022208 then ((some (y217 ++ y220 : List (S48))).bind fun y224 => ((some (([(⟨a1, a0_1⟩ : S48)] : List (S48)) : List (S48))).bind fun y227 => (if y224.length + y227.length < 8796093022208 then ((some (y224 ++ y227 : List (S48))).bind fun y230 => ((some (l0_2.drop (x7_3 : Int).toNat : List (S48))).bind fun y233 => (if y230.length + y233.length < 8796093022208 then ((spec_l10At.f kj3 a0_0 a0_1 l0_2 a1).bind fun t240 => ((spec_l10Ends.f kj3 a0_0 a0_1 l0_2 t210 t211 (y230 ++ y233) (decide (t240 < 0))).bind fun bt241 => (some (bt241.1, bt241.2.1, bt241.2.2.1, bt241.2.2.2)))) else (none)))) else (none)))) else (none)) = some (r1, r2, r3, r4) := by first | (rw [hy220]; with_reducible exact H) | (have H2_ := (Option.bind_some _ _).symm.trans H; rw [hy220]; with_reducible exact H2_) | (have H2_ := (Option.bind_some _ _).symm.trans H; with_reducible exact H2_) | with_reducible exact H | (rw [hy220]; exact H) | exact H
          have Ny220 := Aside0.mk hy220
          clear hy220
          by_cases c29 : y217.length + y220.length < 8796093022208
          · rw [if_pos c29] at H
            have LMc29 := Aside0.mk c29
            clear c29
            obtain ⟨y224, hy224⟩ : ∃ y_ : List (S48), y_ = (y217 ++ y220) := ⟨_, rfl⟩
            replace H : ((some (([(⟨a1, a0_1⟩ : S48)] : List (S48)) : List (S48))).bind fun y227 => (if y224.length + y227.length < 8796093022208 then ((some (y224 ++ y227 : List (S48))).bind fun y230 => ((some (l0_2.drop (x7_3 : Int).toNat : List (S48))).bind fun y233 => (if y230.length + y233.length < 8796093022208 then ((spec_l10At.f kj3 a0_0 a0_1 l0_2 a1).bind fun t240 => ((spec_l10Ends.f kj3 a0_0 a0_1 l0_2 t210 t211 (y230 ++ y233) (decide (t240 < 0))).bind fun bt241 => (some (bt241.1, bt241.2.1, bt241.2.2.1, bt241.2.2.2)))) else (none)))) else (none))) = some (r1, r2, r3, r4) := by first | (rw [hy224]; with_reducible exact H) | (have H2_ := (Option.bind_some _ _).symm.trans H; rw [hy224]; with_reducible exact H2_) | (have H2_ := (Option.bind_some _ _).symm.trans H; with_reducible exact H2_) | with_reducible exact H | (rw [hy224]; exact H) | exact H
            have Ny224 := Aside0.mk hy224
            clear hy224
            obtain ⟨y227, hy227⟩ : ∃ y_ : List (S48), y_ = (([(⟨a1, a0_1⟩ : S48)] : List (S48))) := ⟨_, rfl⟩
            replace H : (if y224.length + y227.length < 8796093022208 then ((some (y224 ++ y227 : List (S48))).bind fun y230 => ((some (l0_2.drop (x7_3 : Int).toNat : List (S48))).bind fun y233 => (if y230.length + y233.length < 8796093022208 then ((spec_l10At.f kj3 a0_0 a0_1 l0_2 a1).bind fun t240 => ((spec_l10Ends.f kj3 a0_0 a0_1 l0_2 t210 t211 (y230 ++ y233) (decide (t240 < 0))).bind fun bt241 => (some (bt241.1, bt241.2.1, bt241.2.2.1, bt241.2.2.2)))) else (none)))) else (none)) = some (r1, r2, r3, r4) := by first | (rw [hy227]; with_reducible exact H) | (have H2_ := (Option.bind_some _ _).symm.trans H; rw [hy227]; with_reducible exact H2_) | (have H2_ := (Option.bind_some _ _).symm.trans H; with_reducible exact H2_) | with_reducible exact H | (rw [hy227]; exact H) | exact H
            have Ny227 := Aside0.mk hy227
            clear hy227
            by_cases c30 : y224.length + y227.length < 8796093022208
            · rw [if_pos c30] at H
              have LMc30 := Aside0.mk c30
              clear c30
              obtain ⟨y230, hy230⟩ : ∃ y_ : List (S48), y_ = (y224 ++ y227) := ⟨_, rfl⟩
              replace H : ((some (l0_2.drop (x7_3 : Int).toNat : List (S48))).bind fun y233 => (if y230.length + y233.length < 8796093022208 then ((spec_l10At.f kj3 a0_0 a0_1 l0_2 a1).bind fun t240 => ((spec_l10Ends.f kj3 a0_0 a0_1 l0_2 t210 t211 (y230 ++ y233) (decide (t240 < 0))).bind fun bt241 => (some (bt241.1, bt241.2.1, bt241.2.2.1, bt241.2.2.2)))) else (none))) = some (r1, r2, r3, r4) := by first | (rw [hy230]; with_reducible exact H) | (have H2_ := (Option.bind_some _ _).symm.trans H; rw [hy230]; with_reducible exact H2_) | (have H2_ := (Option.bind_some _ _).symm.trans H; with_reducible exact H2_) | with_reducible exact H | (rw [hy230]; exact H) | exact H
              have Ny230 := Aside0.mk hy230
              clear hy230
              have c31b0 := eq_true (of_decide_eq_true sm_ : 0 ≤ x7_3)
              have c32b0 := eq_true (of_decide_eq_true sm_ : x7_3 ≤ (l0_2.length : Int))
              obtain ⟨y233, hy233⟩ : ∃ y_ : List (S48), y_ = (l0_2.drop (x7_3 : Int).toNat) := ⟨_, rfl⟩
              replace H : (if y230.length + y233.length < 8796093022208 then ((spec_l10At.f kj3 a0_0 a0_1 l0_2 a1).bind fun t240 => ((spec_l10Ends.f kj3 a0_0 a0_1 l0_2 t210 t211 (y230 ++ y233) (decide (t240 < 0))).bind fun bt241 => (some (bt241.1, bt241.2.1, bt241.2.2.1, bt241.2.2.2)))) else (none)) = some (r1, r2, r3, r4) := by first | (rw [hy233]; with_reducible exact H) | (have H2_ := (Option.bind_some _ _).symm.trans H; rw [hy233]; with_reducible exact H2_) | (have H2_ := (Option.bind_some _ _).symm.trans H; with_reducible exact H2_) | with_reducible exact H | (rw [hy233]; exact H) | exact H
              have Ny233 := Aside0.mk hy233
              clear hy233
              by_cases c33 : y230.length + y233.length < 8796093022208
              · rw [if_pos c33] at H
                have LMc33 := Aside0.mk c33
                clear c33
                obtain ⟨y237, hy237⟩ : ∃ y_ : List (S48), y_ = (y230 ++ y233) := ⟨_, rfl⟩
                replace H : ((spec_l10At.f kj3 a0_0 a0_1 l0_2 a1).bind fun t240 => ((spec_l10Ends.f kj3 a0_0 a0_1 l0_2 t210 t211 y237 (decide (t240 < 0))).bind fun bt241 => (some (bt241.1, bt241.2.1, bt241.2.2.1, bt241.2.2.2)))) = some (r1, r2, r3, r4) := by first | (rw [hy237]; with_reducible exact H) | (have H2_ := (Option.bind_some _ _).symm.trans H; rw [hy237]; with_reducible exact H2_) | (have H2_ := (Option.bind_some _ _).symm.trans H; with_reducible exact H2_) | with_reducible exact H | (rw [hy237]; exact H) | exact H
                have Ny237 := Aside0.mk hy237
                clear hy237
                replace H := Option.bind_eq_some_iff.mp H
                obtain ⟨t240, A340, H⟩ := H
                replace H : ((spec_l10Ends.f kj3 a0_0 a0_1 l0_2 t210 t211 y237 (decide (t240 < 0))).bind fun bt241 => (some (bt241.1, bt241.2.1, bt241.2.2.1, bt241.2.2.2))) = some (r1, r2, r3, r4) := H
                have A34 := Aside0.mk A340
                clear A340
                replace H := Option.bind_eq_some_iff.mp H
                obtain ⟨⟨t241, t242, t243, t246⟩, A350, H⟩ := H
                replace H : (some (t241, t242, t243, t246)) = some (r1, r2, r3, r4) := H
                have A35 := Aside0.mk A350
                clear A350
                simp only [Option.some.injEq, Prod.mk.injEq] at H
                obtain ⟨rfl, rfl, rfl, rfl⟩ := H
                try go_wp2
                replace HO_216002 := As_ (Kd.R_drew HO_216002.out)
                replace BK208 := As_ (blk_drew BK208.out)
                replace BK209 := As_ (blk_drew BK209.out)
                replace BK215 := As_ (blk_drew BK215.out)
                replace HB := As_ (below_drew1 HB.out)
                have q37 : (x7_3 : Int) ≤ ((l0_2.length : Int) : Int) := of_decide_eq_true sm_
                obtain ⟨i037, hi037, _, hsz37, _⟩ := info_parts info48
                have hroom37 : l0_2.length ≤ c0_2 := HC0_2.out
                have hC37 : Kd.C k48 _ A0_2 l0_2.length l0_2 := HR0_2.out
                have hcut37 := cut_to (P := Try.prog) 22 48 .i64 Try.underlying22 hi037 A0_2 l0_2.length c0_2 x7_3 (of_decide_eq_true sm_) q37 hroom37
                have hr37 := Kd.C_take (m := (x7_3 : Int).toNat) hC37 (by omega)
                have hy37 : y220.length = (x7_3 : Int).toNat := (by rw [Ny220.out, List.length_take]; omega)
                rw [← Ny220.out] at hr37
                rw [← hy37] at hcut37
                have HR223 := Aside0.mk hr37
                have HC223 := As_ (show y220.length ≤ c0_2 from by omega)
                clear hr37 hC37 hroom37 hi037 hsz37
                have KY37 := Aside0.mk hy37
                clear hy37
                replace q37 := eq_true q37
                refine start_ (n := 14) (S := fun w' => w'.cell? ⟨gb208, 0, none⟩ = some (.int .i64 a0_0) ∧ w'.cell? ⟨gb208, 1, none⟩ = some (.int .i64 a0_1) ∧ w'.cell? ⟨gb208, 2, none⟩ = some (.slice A0_2 l0_2.length c0_2)) (ds := []) #[false, false, false, false, false, false, false, false, false, false, false, false, false, false] (by kernel_rfl) rfl rfl ⟨(blk_cell BK208.out 0).trans rfl, (blk_cell BK208.out 1).trans rfl, (blk_cell BK208.out 2).trans rfl⟩ (fun hHeld => ?_); refine with_tabW spec_OpenLane.tab5 spec_OpenLane.bits5 (fun HT_ HW_ => ?_)
                generalize wc.drew = w36 at HO_216002 BK208 BK209 BK215 HB HR223 hHeld ⊢
                refine pure_ (i := 1) (N := some 28) (v := ?_) (a' := ?_) #[false, true, false, false, false, false, false, false, false, false, false, false, false, false] rfl rfl (any_of HT_.out (by kernel_rfl)) (fun _ _ _ h => h) (Or.inl ⟨by rfl, ?_⟩) ?_ ?_
                rotate_left
                · intro w'
                  go_simp
                  with_reducible rfl
                rotate_left
                · simp only [Act.put, List.setIfInBounds_toArray, List.set_cons_zero, List.set_cons_succ, i64_w, i32_w]
                  rfl
                refine pure_ (i := 3) (N := some 30) (v := ?_) (a' := ?_) #[false, true, false, true, false, false, false, false, false, false, false, false, false, false] rfl rfl (any_of HT_.out (by kernel_rfl)) (fun _ _ _ h => h) (Or.inl ⟨by rfl, ?_⟩) ?_ ?_
                rotate_left
                · intro w'
                  go_simp
                  with_reducible rfl
                rotate_left
                · simp only [Act.put, List.setIfInBounds_toArray, List.set_cons_zero, List.set_cons_succ, i64_w, i32_w]
                  rfl
                refine pure_ (i := 6) (N := some 33) (v := ?_) (a' := ?_) #[false, true, false, true, false, false, true, false, false, false, false, false, false, false] rfl rfl (any_of HT_.out (by kernel_rfl)) (fun _ _ _ h => h) (Or.inl ⟨by rfl, ?_⟩) ?_ ?_
                rotate_left
                · intro w'
                  go_simp
                  with_reducible rfl
                rotate_left
                · simp only [Act.put, List.setIfInBounds_toArray, List.set_cons_zero, List.set_cons_succ, i64_w, i32_w]
                  rfl
                refine pure_ (i := 7) (N := some 34) (v := ?_) (a' := ?_) #[false, true, false, true, false, false, true, true, false, false, false, false, false, false] rfl rfl (any_of HT_.out (by kernel_rfl)) (fun _ _ _ h => h) (Or.inl ⟨by rfl, ?_⟩) ?_ ?_
                rotate_left
                · intro w'
                  go_simp
                  with_reducible rfl
                rotate_left
                · simp only [Act.put, List.setIfInBounds_toArray, List.set_cons_zero, List.set_cons_succ, i64_w, i32_w]
                  rfl
                refine take_ (i := 2) (N := some 29) (v := ?_) (a' := ?_) #[false, true, true, true, false, false, true, true, false, false, false, false, false, false] rfl rfl (take_ofW HT_.out HW_.out (by kernel_rfl)) (fun _ _ _ h => h) (Or.inl ⟨by rfl, ?_⟩) hHeld ?_ ?_
                rotate_left
                · rintro w' ⟨s0, s1, s2⟩
                  go_simp
                  with_reducible rfl
                rotate_left
                · simp only [Act.put, List.setIfInBounds_toArray, List.set_cons_zero, List.set_cons_succ, i64_w, i32_w]
                  rfl
                refine pure_ (i := 4) (N := some 31) (v := ?_) (a' := ?_) #[false, true, true, true, true, false, true, true, false, false, false, false, false, false] rfl rfl (any_of HT_.out (by kernel_rfl)) (fun _ _ _ h => h) (Or.inl ⟨by rfl, ?_⟩) ?_ ?_
                rotate_left
                · intro w'
                  go_simp
                  with_reducible rfl
                rotate_left
                · simp only [Act.put, List.setIfInBounds_toArray, List.set_cons_zero, List.set_cons_succ, i64_w, i32_w]
                  rfl
                refine take_ (i := 8) (N := some 35) (v := ?_) (a' := ?_) #[false, true, true, true, true, false, true, true, true, false, false, false, false, false] rfl rfl (take_ofW HT_.out HW_.out (by kernel_rfl)) (fun _ _ _ h => h) (Or.inl ⟨by rfl, ?_⟩) hHeld ?_ ?_
                rotate_left
                · rintro w' ⟨s0, s1, s2⟩
                  go_simp
                  with_reducible rfl
                rotate_left
                · simp only [Act.put, List.setIfInBounds_toArray, List.set_cons_zero, List.set_cons_succ, i64_w, i32_w]
                  rfl
                refine pure_ (i := 9) (N := some 36) (v := ?_) (a' := ?_) #[false, true, true, true, true, false, true, true, true, true, false, false, false, false] rfl rfl (any_of HT_.out (by kernel_rfl)) (fun _ _ _ h => h) (Or.inl ⟨by rfl, ?_⟩) ?_ ?_
                rotate_left
                · intro w'
                  go_simp
                  with_reducible rfl
                rotate_left
                · simp only [Act.put, List.setIfInBounds_toArray, List.set_cons_zero, List.set_cons_succ, i64_w, i32_w]
                  rfl
                refine join_ (σ := Value × Value × Value) 3 #[true, true, true, true, true, true, true, true, true, true, true, false, false, false] (fun s_ => [(27, s_.1), (32, s_.2.1), (37, s_.2.2)]) (fun s_ w' => (w'.cell? ⟨gb208, 0, none⟩ = some (.int .i64 a0_0) ∧ w'.cell? ⟨gb208, 1, none⟩ = some (.int .i64 a0_1) ∧ w'.cell? ⟨gb208, 2, none⟩ = some (.slice A0_2 l0_2.length c0_2)) ∧ (Kd.R k48 48 w' w.heap.size (fun k_ => some k_ ≠ (s_.2.2 : Value).ownBlock ∧ some k_ ≠ (.slice Ao14 t212.length co14 : Value).ownBlock) s_.2.1 y224) ∧ (Kd.R k48 48 w' w.heap.size (fun k_ => some k_ ≠ (s_.2.1 : Value).ownBlock ∧ some k_ ≠ (.slice Ao14 t212.length co14 : Value).ownBlock) s_.2.2 y227) ∧ (Kd.R k48 48 w' w.heap.size (fun k_ => some k_ ≠ (s_.2.1 : Value).ownBlock ∧ some k_ ≠ (s_.2.2 : Value).ownBlock) (.slice Ao14 t212.length co14) t212) ∧ (w'.heap[gb208]? = some (.cells #[.int .i64 a0_0, .int .i64 a0_1, .slice A0_2 l0_2.length c0_2] 24 (0, 0))) ∧ (w'.heap[gb209]? = some (.cells #[.int .i64 0, .int .i64 0, .slice none 0 0] 24 (0, 0))) ∧ (w'.heap[gb215]? = some (.cells #[.int .i64 t210, .int .i64 t211, .slice Ao14 t212.length co14] 24 (0, 0))) ∧ (Below w.heap.size w w')) ?_ ?_
                rotate_left
                · intro hCont
                  refine two_ (i := 0) (j := 10) (Ni := some 27) (Nj := some 37) #[true, true, true, true, true, false, true, true, true, true, false, false, false, false] #[false, true, true, true, true, false, true, true, true, true, true, false, false, false] rfl rfl rfl rfl (two_of HT_.out (by kernel_rfl)) (by decide) (by decide) (fun K hK => ?_) (fun K hK => ?_)
                  · skip
                    refine Kd.R_lit_step k48 _ 48 ?hg (N := 27) ?hd (xs := ([] : List (S48))) (inner := []) (ok := fun _ => True) (okp := fun _ => True) ?hr ?hp (fun _ hk => hk) trivial (Below.refl _ _) (Nat.le_refl _) (by simp) ?_; (case hd => rfl); (case hg => rfl); (case hr => first | (go_simp; done) | (go_simp; rfl)); (case hp => exact (Reps.none _ _))
                    intro v218 w38 ho39 hb hg_ hnew_
                    clear hg_ hnew_
                    (first | rw [← Ny217.out] at ho39 | (simp only [Int.reduceToNat] at ho39; rw [← Ny217.out] at ho39))
                    have n0_ := As_ (Kd.R_elder' (rk_ HO_216002.out) (Kd.R_base ho39) hb)
                    have n1_ := As_ (Kd.R_lower (Kd.R_new' ho39 (Kd.R_lt (rk_ HO_216002.out))) (below_size (zb3_ HB.out GE208.out GE209.out GE215.out)))
                    have n2_ := As_ (blk_below (g := gb208) (o := .cells #[.int .i64 a0_0, .int .i64 a0_1, .slice A0_2 l0_2.length c0_2] 24 (0, 0)) (ak_ BK208.out) hb)
                    have n3_ := As_ (blk_below (g := gb209) (o := .cells #[.int .i64 0, .int .i64 0, .slice none 0 0] 24 (0, 0)) (ak_ BK209.out) hb)
                    have n4_ := As_ (blk_below (g := gb215) (o := .cells #[.int .i64 t210, .int .i64 t211, .slice Ao14 t212.length co14] 24 (0, 0)) (ak_ BK215.out) hb)
                    have n5_ := As_ (below_step (zb3_ HB.out GE208.out GE209.out GE215.out) hb)
                    clear HO_216002 BK208 BK209 BK215 HB
                    have HO_216002 := n0_
                    have HO219 := n1_
                    have BK208 := n2_
                    have BK209 := n3_
                    have BK215 := n4_
                    have HB := n5_
                    clear n0_ n1_ n2_ n3_ n4_ n5_ hb ho39
                    refine hK.out _ _ ⟨(blk_cell BK208.out 0).trans rfl, (blk_cell BK208.out 1).trans rfl, (blk_cell BK208.out 2).trans rfl⟩ (fun hHeld => ?_)
                    clear hK K
                    refine norm_ (a' := ?_) ?_ ?_
                    rotate_left
                    · show Act.put _ (some 27) _ = _
                      simp only [Act.put, List.setIfInBounds_toArray, List.set_cons_zero, List.set_cons_succ, i64_w, i32_w]
                      rfl
                    refine two_ (i := 5) (j := 10) (Ni := some 32) (Nj := some 37) #[true, true, true, true, true, true, true, true, true, true, false, false, false, false] #[true, true, true, true, true, false, true, true, true, true, true, false, false, false] rfl rfl rfl rfl (two_of HT_.out (by kernel_rfl)) (by decide) (by decide) (fun K hK => ?_) (fun K hK => ?_)
                    · skip
                      refine Kd.R_append_rows_step k48 (w0 := w) w.heap.size (by rfl) (.tmp 27) (.tmp 31) 22 48 (.agg #[(.int .i64 0), (.int .i64 0)]) 16 rfl Try.underlying22 info48 rfl (by decide) (by omega) v218 y217 y220 _ _ _ (fun k_ => some k_ ≠ (.slice Ao14 t212.length co14 : Value).ownBlock) (fun _ => False) rfl rfl ?aO ?aR (fun _ _ h => h) (fun _ h => h.elim) ?aF ?aB ?aS ?aL ?_
                      (case aR => repeat (first | exact (Kd.C_below HR223.out HB.out) | (with_reducible first | apply cA_ | apply cN_ | apply cD_)))
                      (case aB => exact (zb3_ HB.out GE208.out GE209.out GE215.out))
                      (case aF => exact (fun k_ hk => Kd.fresh' (Kd.R_lt (rk_ HO_216002.out)) k_ hk))
                      (case aO => exact (by (with_reducible repeat (first | apply rA_ | apply rN_ | apply rD_)); exact Kd.R_mono HO219.out (fun _ hk => hk.2)))
                      (case aS => exact (below_size (zb3_ HB.out GE208.out GE209.out GE215.out)))
                      (case aL => have := LMc29.out; omega)
                      intro v225 w40 ho hb hg hat
                      rw [← Ny224.out] at ho
                      have n0_ := As_ (Kd.R_after (ok := (fun _ => True)) (rk_ HO_216002.out) hg hat)
                      have n1_ := As_ (blk_grown (g := gb208) (o := .cells #[.int .i64 a0_0, .int .i64 a0_1, .slice A0_2 l0_2.length c0_2] 24 (0, 0)) (ak_ BK208.out) hg (Kd.R_ne HO219.out BK208.out (by decide)))
                      have n2_ := As_ (blk_grown (g := gb209) (o := .cells #[.int .i64 0, .int .i64 0, .slice none 0 0] 24 (0, 0)) (ak_ BK209.out) hg (Kd.R_ne HO219.out BK209.out (by decide)))
                      have n3_ := As_ (blk_grown (g := gb215) (o := .cells #[.int .i64 t210, .int .i64 t211, .slice Ao14 t212.length co14] 24 (0, 0)) (ak_ BK215.out) hg (Kd.R_ne HO219.out BK215.out (by decide)))
                      have n4_ := As_ (hb)
                      have n5_ := As_ (ho)
                      clear HO_216002 BK208 BK209 BK215 HB HO219
                      have HO_216002 := n0_
                      have BK208 := n1_
                      have BK209 := n2_
                      have BK215 := n3_
                      have HB := n4_
                      have HO226 := n5_
                      clear n0_ n1_ n2_ n3_ n4_ n5_ ho hb hg hat
                      refine hK.out _ _ ⟨(blk_cell BK208.out 0).trans rfl, (blk_cell BK208.out 1).trans rfl, (blk_cell BK208.out 2).trans rfl⟩ (fun hHeld => ?_)
                      clear hK K
                      refine norm_ (a' := ?_) ?_ ?_
                      rotate_left
                      · show Act.put _ (some 32) _ = _
                        simp only [Act.put, List.setIfInBounds_toArray, List.set_cons_zero, List.set_cons_succ, i64_w, i32_w]
                        rfl
                      refine one_ (i := 10) (N := some 37) #[true, true, true, true, true, true, true, true, true, true, true, false, false, false] rfl rfl (one_of HT_.out (by kernel_rfl)) (by decide) (fun K hK => ?_)
                      refine Kd.R_lit_step k48 _ 48 ?hg (N := 37) ?hd (xs := ([(⟨a1, a0_1⟩ : S48)] : List (S48))) (inner := [.int .i64 a1, .int .i64 a0_1]) (ok := fun _ => True) (okp := fun _ => True) ?hr ?hp (fun _ hk => hk) trivial (Below.refl _ _) (Nat.le_refl _) (by simp) ?_; (case hd => rfl); (case hg => rfl); (case hr => first | (go_simp; done) | (go_simp; rfl)); (case hp => exact (Reps.c2 (show Kd.M k48 _ _ _ (⟨a1, a0_1⟩ : S48) [.int .i64 a1, .int .i64 a0_1] from (k48_mkM _ _ _ (⟨a1, a0_1⟩ : S48) )) (Reps.none _ _)))
                      intro v228 w41 ho42 hb hg_ hnew_
                      clear hg_ hnew_
                      (first | rw [← Ny227.out] at ho42 | (simp only [Int.reduceToNat] at ho42; rw [← Ny227.out] at ho42))
                      have n0_ := As_ (Kd.R_elder' (rk_ HO_216002.out) (Kd.R_base ho42) hb)
                      have n1_ := As_ (Kd.R_elder' (rk_ HO226.out) (Kd.R_base ho42) hb)
                      have n2_ := As_ (Kd.R_lower (Kd.R_new' (Kd.R_new' ho42 (Kd.R_lt (rk_ HO_216002.out))) (Kd.R_lt (rk_ HO226.out))) (below_size (zb3_ HB.out GE208.out GE209.out GE215.out)))
                      have n3_ := As_ (blk_below (g := gb208) (o := .cells #[.int .i64 a0_0, .int .i64 a0_1, .slice A0_2 l0_2.length c0_2] 24 (0, 0)) (ak_ BK208.out) hb)
                      have n4_ := As_ (blk_below (g := gb209) (o := .cells #[.int .i64 0, .int .i64 0, .slice none 0 0] 24 (0, 0)) (ak_ BK209.out) hb)
                      have n5_ := As_ (blk_below (g := gb215) (o := .cells #[.int .i64 t210, .int .i64 t211, .slice Ao14 t212.length co14] 24 (0, 0)) (ak_ BK215.out) hb)
                      have n6_ := As_ (below_step (zb3_ HB.out GE208.out GE209.out GE215.out) hb)
                      clear HO_216002 HO226 BK208 BK209 BK215 HB
                      have HO_216002 := n0_
                      have HO226 := n1_
                      have HO229 := n2_
                      have BK208 := n3_
                      have BK209 := n4_
                      have BK215 := n5_
                      have HB := n6_
                      clear n0_ n1_ n2_ n3_ n4_ n5_ n6_ hb ho42
                      refine hK.out _ _ ⟨(blk_cell BK208.out 0).trans rfl, (blk_cell BK208.out 1).trans rfl, (blk_cell BK208.out 2).trans rfl⟩ (fun hHeld => ?_)
                      clear hK K
                      refine norm_ (a' := ?_) ?_ ?_
                      rotate_left
                      · show Act.put _ (some 37) _ = _
                        simp only [Act.put, List.setIfInBounds_toArray, List.set_cons_zero, List.set_cons_succ, i64_w, i32_w]
                        rfl
                      exact norm_ (by simp only [putAll, Act.put, List.setIfInBounds_toArray, List.set_cons_zero, List.set_cons_succ]) (hCont (v218, v225, v228) _ ⟨hHeld, (by (with_reducible repeat (first | apply rA_ | apply rN_ | apply rD_)); exact Kd.R_mono HO226.out (fun _ hk => ⟨hk.2, hk.1⟩)), (by (with_reducible repeat (first | apply rA_ | apply rN_ | apply rD_)); exact Kd.R_mono HO229.out (fun _ hk => ⟨hk.2, hk.1.2⟩)), (by (with_reducible repeat (first | apply rA_ | apply rN_ | apply rD_)); exact Kd.R_mono HO_216002.out (fun _ hk => ⟨hk.1.2, hk.2⟩)), (ak_ BK208.out), (ak_ BK209.out), (ak_ BK215.out), (zb3_ HB.out GE208.out GE209.out GE215.out)⟩)
                    · skip
                      refine Kd.R_lit_step k48 _ 48 ?hg (N := 37) ?hd (xs := ([(⟨a1, a0_1⟩ : S48)] : List (S48))) (inner := [.int .i64 a1, .int .i64 a0_1]) (ok := fun _ => True) (okp := fun _ => True) ?hr ?hp (fun _ hk => hk) trivial (Below.refl _ _) (Nat.le_refl _) (by simp) ?_; (case hd => rfl); (case hg => rfl); (case hr => first | (go_simp; done) | (go_simp; rfl)); (case hp => exact (Reps.c2 (show Kd.M k48 _ _ _ (⟨a1, a0_1⟩ : S48) [.int .i64 a1, .int .i64 a0_1] from (k48_mkM _ _ _ (⟨a1, a0_1⟩ : S48) )) (Reps.none _ _)))
                      intro v228 w40 ho41 hb hg_ hnew_
                      clear hg_ hnew_
                      (first | rw [← Ny227.out] at ho41 | (simp only [Int.reduceToNat] at ho41; rw [← Ny227.out] at ho41))
                      have n0_ := As_ (Kd.R_elder' (rk_ HO_216002.out) (Kd.R_base ho41) hb)
                      have n1_ := As_ (Kd.R_elder' (rk_ HO219.out) (Kd.R_base ho41) hb)
                      have n2_ := As_ (Kd.R_lower (Kd.R_new' (Kd.R_new' ho41 (Kd.R_lt (rk_ HO_216002.out))) (Kd.R_lt (rk_ HO219.out))) (below_size (zb3_ HB.out GE208.out GE209.out GE215.out)))
                      have n3_ := As_ (blk_below (g := gb208) (o := .cells #[.int .i64 a0_0, .int .i64 a0_1, .slice A0_2 l0_2.length c0_2] 24 (0, 0)) (ak_ BK208.out) hb)
                      have n4_ := As_ (blk_below (g := gb209) (o := .cells #[.int .i64 0, .int .i64 0, .slice none 0 0] 24 (0, 0)) (ak_ BK209.out) hb)
                      have n5_ := As_ (blk_below (g := gb215) (o := .cells #[.int .i64 t210, .int .i64 t211, .slice Ao14 t212.length co14] 24 (0, 0)) (ak_ BK215.out) hb)
                      have n6_ := As_ (below_step (zb3_ HB.out GE208.out GE209.out GE215.out) hb)
                      clear HO_216002 HO219 BK208 BK209 BK215 HB
                      have HO_216002 := n0_
                      have HO219 := n1_
                      have HO229 := n2_
                      have BK208 := n3_
                      have BK209 := n4_
                      have BK215 := n5_
                      have HB := n6_
                      clear n0_ n1_ n2_ n3_ n4_ n5_ n6_ hb ho41
                      refine hK.out _ _ ⟨(blk_cell BK208.out 0).trans rfl, (blk_cell BK208.out 1).trans rfl, (blk_cell BK208.out 2).trans rfl⟩ (fun hHeld => ?_)
                      clear hK K
                      refine norm_ (a' := ?_) ?_ ?_
                      rotate_left
                      · show Act.put _ (some 37) _ = _
                        simp only [Act.put, List.setIfInBounds_toArray, List.set_cons_zero, List.set_cons_succ, i64_w, i32_w]
                        rfl
                      refine one_ (i := 5) (N := some 32) #[true, true, true, true, true, true, true, true, true, true, true, false, false, false] rfl rfl (one_of HT_.out (by kernel_rfl)) (by decide) (fun K hK => ?_)
                      refine Kd.R_append_rows_step k48 (w0 := w) w.heap.size (by rfl) (.tmp 27) (.tmp 31) 22 48 (.agg #[(.int .i64 0), (.int .i64 0)]) 16 rfl Try.underlying22 info48 rfl (by decide) (by omega) v218 y217 y220 _ _ _ (fun k_ => some k_ ≠ (.slice Ao14 t212.length co14 : Value).ownBlock ∧ some k_ ≠ (v228 : Value).ownBlock) (fun _ => False) rfl rfl ?aO ?aR (fun _ _ h => h) (fun _ h => h.elim) ?aF ?aB ?aS ?aL ?_
                      (case aR => repeat (first | exact (Kd.C_below HR223.out HB.out) | (with_reducible first | apply cA_ | apply cN_ | apply cD_)))
                      (case aB => exact (zb3_ HB.out GE208.out GE209.out GE215.out))
                      (case aF => exact (fun k_ hk => ⟨Kd.fresh' (Kd.R_lt (rk_ HO_216002.out)) k_ hk, Kd.fresh' (Kd.R_lt (rk_ HO229.out)) k_ hk⟩))
                      (case aO => exact (by (with_reducible repeat (first | apply rA_ | apply rN_ | apply rD_)); exact Kd.R_mono HO219.out (fun _ hk => ⟨hk.1.2, hk.2⟩)))
                      (case aS => exact (below_size (zb3_ HB.out GE208.out GE209.out GE215.out)))
                      (case aL => have := LMc29.out; omega)
                      intro v225 w42 ho hb hg hat
                      rw [← Ny224.out] at ho
                      have n0_ := As_ (Kd.R_after (ok := (fun k_ => some k_ ≠ (v228 : Value).ownBlock)) (by (with_reducible repeat (first | apply rA_ | apply rN_ | apply rD_)); exact Kd.R_mono HO_216002.out (fun _ hk => ⟨hk.2, hk.1.2⟩)) hg hat)
                      have n1_ := As_ (blk_grown (g := gb208) (o := .cells #[.int .i64 a0_0, .int .i64 a0_1, .slice A0_2 l0_2.length c0_2] 24 (0, 0)) (ak_ BK208.out) hg (Kd.R_ne HO219.out BK208.out (by decide)))
                      have n2_ := As_ (blk_grown (g := gb209) (o := .cells #[.int .i64 0, .int .i64 0, .slice none 0 0] 24 (0, 0)) (ak_ BK209.out) hg (Kd.R_ne HO219.out BK209.out (by decide)))
                      have n3_ := As_ (blk_grown (g := gb215) (o := .cells #[.int .i64 t210, .int .i64 t211, .slice Ao14 t212.length co14] 24 (0, 0)) (ak_ BK215.out) hg (Kd.R_ne HO219.out BK215.out (by decide)))
                      have n4_ := As_ (Kd.R_after (ok := (fun k_ => some k_ ≠ (.slice Ao14 t212.length co14 : Value).ownBlock)) (by (with_reducible repeat (first | apply rA_ | apply rN_ | apply rD_)); exact Kd.R_mono HO229.out (fun _ hk => ⟨hk.1.2, hk.2⟩)) hg hat)
                      have n5_ := As_ (hb)
                      have n6_ := As_ (ho)
                      clear HO_216002 BK208 BK209 BK215 HO229 HB HO219
                      have HO_216002 := n0_
                      have BK208 := n1_
                      have BK209 := n2_
                      have BK215 := n3_
                      have HO229 := n4_
                      have HB := n5_
                      have HO226 := n6_
                      clear n0_ n1_ n2_ n3_ n4_ n5_ n6_ ho hb hg hat
                      refine hK.out _ _ ⟨(blk_cell BK208.out 0).trans rfl, (blk_cell BK208.out 1).trans rfl, (blk_cell BK208.out 2).trans rfl⟩ (fun hHeld => ?_)
                      clear hK K
                      refine norm_ (a' := ?_) ?_ ?_
                      rotate_left
                      · show Act.put _ (some 32) _ = _
                        simp only [Act.put, List.setIfInBounds_toArray, List.set_cons_zero, List.set_cons_succ, i64_w, i32_w]
                        rfl
                      exact norm_ (by simp only [putAll, Act.put, List.setIfInBounds_toArray, List.set_cons_zero, List.set_cons_succ]) (hCont (v218, v225, v228) _ ⟨hHeld, (by (with_reducible repeat (first | apply rA_ | apply rN_ | apply rD_)); exact Kd.R_mono HO226.out (fun _ hk => ⟨hk.2, hk.1⟩)), (by (with_reducible repeat (first | apply rA_ | apply rN_ | apply rD_)); exact Kd.R_mono HO229.out (fun _ hk => ⟨hk.2, hk.1⟩)), (by (with_reducible repeat (first | apply rA_ | apply rN_ | apply rD_)); exact Kd.R_mono HO_216002.out (fun _ hk => ⟨hk.2, hk.1⟩)), (ak_ BK208.out), (ak_ BK209.out), (ak_ BK215.out), (zb3_ HB.out GE208.out GE209.out GE215.out)⟩)
                  · skip
                    refine Kd.R_lit_step k48 _ 48 ?hg (N := 37) ?hd (xs := ([(⟨a1, a0_1⟩ : S48)] : List (S48))) (inner := [.int .i64 a1, .int .i64 a0_1]) (ok := fun _ => True) (okp := fun _ => True) ?hr ?hp (fun _ hk => hk) trivial (Below.refl _ _) (Nat.le_refl _) (by simp) ?_; (case hd => rfl); (case hg => rfl); (case hr => first | (go_simp; done) | (go_simp; rfl)); (case hp => exact (Reps.c2 (show Kd.M k48 _ _ _ (⟨a1, a0_1⟩ : S48) [.int .i64 a1, .int .i64 a0_1] from (k48_mkM _ _ _ (⟨a1, a0_1⟩ : S48) )) (Reps.none _ _)))
                    intro v228 w38 ho39 hb hg_ hnew_
                    clear hg_ hnew_
                    (first | rw [← Ny227.out] at ho39 | (simp only [Int.reduceToNat] at ho39; rw [← Ny227.out] at ho39))
                    have n0_ := As_ (Kd.R_elder' (rk_ HO_216002.out) (Kd.R_base ho39) hb)
                    have n1_ := As_ (Kd.R_lower (Kd.R_new' ho39 (Kd.R_lt (rk_ HO_216002.out))) (below_size (zb3_ HB.out GE208.out GE209.out GE215.out)))
                    have n2_ := As_ (blk_below (g := gb208) (o := .cells #[.int .i64 a0_0, .int .i64 a0_1, .slice A0_2 l0_2.length c0_2] 24 (0, 0)) (ak_ BK208.out) hb)
                    have n3_ := As_ (blk_below (g := gb209) (o := .cells #[.int .i64 0, .int .i64 0, .slice none 0 0] 24 (0, 0)) (ak_ BK209.out) hb)
                    have n4_ := As_ (blk_below (g := gb215) (o := .cells #[.int .i64 t210, .int .i64 t211, .slice Ao14 t212.length co14] 24 (0, 0)) (ak_ BK215.out) hb)
                    have n5_ := As_ (below_step (zb3_ HB.out GE208.out GE209.out GE215.out) hb)
                    clear HO_216002 BK208 BK209 BK215 HB
                    have HO_216002 := n0_
                    have HO229 := n1_
                    have BK208 := n2_
                    have BK209 := n3_
                    have BK215 := n4_
                    have HB := n5_
                    clear n0_ n1_ n2_ n3_ n4_ n5_ hb ho39
                    refine hK.out _ _ ⟨(blk_cell BK208.out 0).trans rfl, (blk_cell BK208.out 1).trans rfl, (blk_cell BK208.out 2).trans rfl⟩ (fun hHeld => ?_)
                    clear hK K
                    refine norm_ (a' := ?_) ?_ ?_
                    rotate_left
                    · show Act.put _ (some 37) _ = _
                      simp only [Act.put, List.setIfInBounds_toArray, List.set_cons_zero, List.set_cons_succ, i64_w, i32_w]
                      rfl
                    refine one_ (i := 0) (N := some 27) #[true, true, true, true, true, false, true, true, true, true, true, false, false, false] rfl rfl (one_of HT_.out (by kernel_rfl)) (by decide) (fun K hK => ?_)
                    refine Kd.R_lit_step k48 _ 48 ?hg (N := 27) ?hd (xs := ([] : List (S48))) (inner := []) (ok := fun _ => True) (okp := fun _ => True) ?hr ?hp (fun _ hk => hk) trivial (Below.refl _ _) (Nat.le_refl _) (by simp) ?_; (case hd => rfl); (case hg => rfl); (case hr => first | (go_simp; done) | (go_simp; rfl)); (case hp => exact (Reps.none _ _))
                    intro v218 w40 ho41 hb hg_ hnew_
                    clear hg_ hnew_
                    (first | rw [← Ny217.out] at ho41 | (simp only [Int.reduceToNat] at ho41; rw [← Ny217.out] at ho41))
                    have n0_ := As_ (Kd.R_elder' (rk_ HO_216002.out) (Kd.R_base ho41) hb)
                    have n1_ := As_ (Kd.R_elder' (rk_ HO229.out) (Kd.R_base ho41) hb)
                    have n2_ := As_ (Kd.R_lower (Kd.R_new' (Kd.R_new' ho41 (Kd.R_lt (rk_ HO_216002.out))) (Kd.R_lt (rk_ HO229.out))) (below_size (zb3_ HB.out GE208.out GE209.out GE215.out)))
                    have n3_ := As_ (blk_below (g := gb208) (o := .cells #[.int .i64 a0_0, .int .i64 a0_1, .slice A0_2 l0_2.length c0_2] 24 (0, 0)) (ak_ BK208.out) hb)
                    have n4_ := As_ (blk_below (g := gb209) (o := .cells #[.int .i64 0, .int .i64 0, .slice none 0 0] 24 (0, 0)) (ak_ BK209.out) hb)
                    have n5_ := As_ (blk_below (g := gb215) (o := .cells #[.int .i64 t210, .int .i64 t211, .slice Ao14 t212.length co14] 24 (0, 0)) (ak_ BK215.out) hb)
                    have n6_ := As_ (below_step (zb3_ HB.out GE208.out GE209.out GE215.out) hb)
                    clear HO_216002 HO229 BK208 BK209 BK215 HB
                    have HO_216002 := n0_
                    have HO229 := n1_
                    have HO219 := n2_
                    have BK208 := n3_
                    have BK209 := n4_
                    have BK215 := n5_
                    have HB := n6_
                    clear n0_ n1_ n2_ n3_ n4_ n5_ n6_ hb ho41
                    refine hK.out _ _ ⟨(blk_cell BK208.out 0).trans rfl, (blk_cell BK208.out 1).trans rfl, (blk_cell BK208.out 2).trans rfl⟩ (fun hHeld => ?_)
                    clear hK K
                    refine norm_ (a' := ?_) ?_ ?_
                    rotate_left
                    · show Act.put _ (some 27) _ = _
                      simp only [Act.put, List.setIfInBounds_toArray, List.set_cons_zero, List.set_cons_succ, i64_w, i32_w]
                      rfl
                    refine one_ (i := 5) (N := some 32) #[true, true, true, true, true, true, true, true, true, true, true, false, false, false] rfl rfl (one_of HT_.out (by kernel_rfl)) (by decide) (fun K hK => ?_)
                    refine Kd.R_append_rows_step k48 (w0 := w) w.heap.size (by rfl) (.tmp 27) (.tmp 31) 22 48 (.agg #[(.int .i64 0), (.int .i64 0)]) 16 rfl Try.underlying22 info48 rfl (by decide) (by omega) v218 y217 y220 _ _ _ (fun k_ => some k_ ≠ (.slice Ao14 t212.length co14 : Value).ownBlock ∧ some k_ ≠ (v228 : Value).ownBlock) (fun _ => False) rfl rfl ?aO ?aR (fun _ _ h => h) (fun _ h => h.elim) ?aF ?aB ?aS ?aL ?_
                    (case aR => repeat (first | exact (Kd.C_below HR223.out HB.out) | (with_reducible first | apply cA_ | apply cN_ | apply cD_)))
                    (case aB => exact (zb3_ HB.out GE208.out GE209.out GE215.out))
                    (case aF => exact (fun k_ hk => ⟨Kd.fresh' (Kd.R_lt (rk_ HO_216002.out)) k_ hk, Kd.fresh' (Kd.R_lt (rk_ HO229.out)) k_ hk⟩))
                    (case aO => exact (by (with_reducible repeat (first | apply rA_ | apply rN_ | apply rD_)); exact Kd.R_mono HO219.out (fun _ hk => ⟨hk.1.2, hk.2⟩)))
                    (case aS => exact (below_size (zb3_ HB.out GE208.out GE209.out GE215.out)))
                    (case aL => have := LMc29.out; omega)
                    intro v225 w42 ho hb hg hat
                    rw [← Ny224.out] at ho
                    have n0_ := As_ (Kd.R_after (ok := (fun k_ => some k_ ≠ (v228 : Value).ownBlock)) (by (with_reducible repeat (first | apply rA_ | apply rN_ | apply rD_)); exact Kd.R_mono HO_216002.out (fun _ hk => ⟨hk.1.2, hk.2⟩)) hg hat)
                    have n1_ := As_ (blk_grown (g := gb208) (o := .cells #[.int .i64 a0_0, .int .i64 a0_1, .slice A0_2 l0_2.length c0_2] 24 (0, 0)) (ak_ BK208.out) hg (Kd.R_ne HO219.out BK208.out (by decide)))
                    have n2_ := As_ (blk_grown (g := gb209) (o := .cells #[.int .i64 0, .int .i64 0, .slice none 0 0] 24 (0, 0)) (ak_ BK209.out) hg (Kd.R_ne HO219.out BK209.out (by decide)))
                    have n3_ := As_ (blk_grown (g := gb215) (o := .cells #[.int .i64 t210, .int .i64 t211, .slice Ao14 t212.length co14] 24 (0, 0)) (ak_ BK215.out) hg (Kd.R_ne HO219.out BK215.out (by decide)))
                    have n4_ := As_ (Kd.R_after (ok := (fun k_ => some k_ ≠ (.slice Ao14 t212.length co14 : Value).ownBlock)) (by (with_reducible repeat (first | apply rA_ | apply rN_ | apply rD_)); exact Kd.R_mono HO229.out (fun _ hk => ⟨hk.1.2, hk.2⟩)) hg hat)
                    have n5_ := As_ (hb)
                    have n6_ := As_ (ho)
                    clear HO_216002 BK208 BK209 BK215 HO229 HB HO219
                    have HO_216002 := n0_
                    have BK208 := n1_
                    have BK209 := n2_
                    have BK215 := n3_
                    have HO229 := n4_
                    have HB := n5_
                    have HO226 := n6_
                    clear n0_ n1_ n2_ n3_ n4_ n5_ n6_ ho hb hg hat
                    refine hK.out _ _ ⟨(blk_cell BK208.out 0).trans rfl, (blk_cell BK208.out 1).trans rfl, (blk_cell BK208.out 2).trans rfl⟩ (fun hHeld => ?_)
                    clear hK K
                    refine norm_ (a' := ?_) ?_ ?_
                    rotate_left
                    · show Act.put _ (some 32) _ = _
                      simp only [Act.put, List.setIfInBounds_toArray, List.set_cons_zero, List.set_cons_succ, i64_w, i32_w]
                      rfl
                    exact norm_ (by simp only [putAll, Act.put, List.setIfInBounds_toArray, List.set_cons_zero, List.set_cons_succ]) (hCont (v218, v225, v228) _ ⟨hHeld, (by (with_reducible repeat (first | apply rA_ | apply rN_ | apply rD_)); exact Kd.R_mono HO226.out (fun _ hk => ⟨hk.2, hk.1⟩)), (by (with_reducible repeat (first | apply rA_ | apply rN_ | apply rD_)); exact Kd.R_mono HO229.out (fun _ hk => ⟨hk.2, hk.1⟩)), (by (with_reducible repeat (first | apply rA_ | apply rN_ | apply rD_)); exact Kd.R_mono HO_216002.out (fun _ hk => ⟨hk.2, hk.1⟩)), (ak_ BK208.out), (ak_ BK209.out), (ak_ BK215.out), (zb3_ HB.out GE208.out GE209.out GE215.out)⟩)
                rintro ⟨v218, v225, v228⟩ w43 ⟨hS_, h0_, h1_, h2_, h3_, h4_, h5_, h6_⟩
                have HO226 : Aside0 (Kd.R k48 48 w43 w.heap.size (fun k_ => some k_ ≠ (v228 : Value).ownBlock ∧ some k_ ≠ (.slice Ao14 t212.length co14 : Value).ownBlock) v225 y224) := ⟨h0_⟩
                have HO229 : Aside0 (Kd.R k48 48 w43 w.heap.size (fun k_ => some k_ ≠ (v225 : Value).ownBlock ∧ some k_ ≠ (.slice Ao14 t212.length co14 : Value).ownBlock) v228 y227) := ⟨h1_⟩
                replace HO_216002 : Aside0 (Kd.R k48 48 w43 w.heap.size (fun k_ => some k_ ≠ (v225 : Value).ownBlock ∧ some k_ ≠ (v228 : Value).ownBlock) (.slice Ao14 t212.length co14) t212) := ⟨h2_⟩
                replace BK208 : Aside0 (w43.heap[gb208]? = some (.cells #[.int .i64 a0_0, .int .i64 a0_1, .slice A0_2 l0_2.length c0_2] 24 (0, 0))) := ⟨h3_⟩
                replace BK209 : Aside0 (w43.heap[gb209]? = some (.cells #[.int .i64 0, .int .i64 0, .slice none 0 0] 24 (0, 0))) := ⟨h4_⟩
                replace BK215 : Aside0 (w43.heap[gb215]? = some (.cells #[.int .i64 t210, .int .i64 t211, .slice Ao14 t212.length co14] 24 (0, 0))) := ⟨h5_⟩
                replace HB : Aside0 (Below w.heap.size w w43) := ⟨h6_⟩
                clear h0_ h1_ h2_ h3_ h4_ h5_ h6_
                have hHeld : w43.cell? ⟨gb208, 0, none⟩ = some (.int .i64 a0_0) ∧ w43.cell? ⟨gb208, 1, none⟩ = some (.int .i64 a0_1) ∧ w43.cell? ⟨gb208, 2, none⟩ = some (.slice A0_2 l0_2.length c0_2) := hS_
                obtain ⟨Ao45, co45, eo45⟩ := Kd.R_slice HO229.out
                (first | subst eo45 | (injection eo45 with f1_ f2_ f3_; have f4_ := f1_.symm; have f5_ := f3_.symm; clear f1_ f2_ f3_; subst f4_; subst f5_))
                refine norm_ (a' := ?_) ?_ ?_
                rotate_left
                · simp only [putAll, Act.put, List.setIfInBounds_toArray, List.set_cons_zero, List.set_cons_succ]
                  rfl
                refine one_ (i := 11) (N := some 38) #[true, true, true, true, true, true, true, true, true, true, true, true, false, false] rfl rfl (one_of HT_.out (by kernel_rfl)) (by decide) (fun K hK => ?_)
                refine Kd.R_append_rows_step k48 (w0 := w) w.heap.size (by rfl) (.tmp 32) (.tmp 37) 22 48 (.agg #[(.int .i64 0), (.int .i64 0)]) 16 rfl Try.underlying22 info48 rfl (by decide) (by omega) v225 y224 y227 _ _ _ (fun k_ => some k_ ≠ (.slice Ao14 t212.length co14 : Value).ownBlock ∧ some k_ ≠ (.slice Ao45 y227.length co45 : Value).ownBlock) (fun _ => False) rfl rfl ?aO ?aR (fun _ _ h => h) (fun _ h => h.elim) ?aF ?aB ?aS ?aL ?_
                (case aR => repeat (first | exact (Kd.R_reads' HO229.out).2.2 | (with_reducible first | apply cA_ | apply cN_ | apply cD_)))
                (case aB => exact (zb3_ HB.out GE208.out GE209.out GE215.out))
                (case aF => exact (fun k_ hk => ⟨Kd.fresh' (Kd.R_lt (rk_ HO_216002.out)) k_ hk, Kd.fresh' (Kd.R_lt (rk_ HO229.out)) k_ hk⟩))
                (case aO => exact (by (with_reducible repeat (first | apply rA_ | apply rN_ | apply rD_)); exact Kd.R_mono HO226.out (fun _ hk => ⟨hk.2, hk.1⟩)))
                (case aS => exact (below_size (zb3_ HB.out GE208.out GE209.out GE215.out)))
                (case aL => have := LMc30.out; omega)
                intro v231 w44 ho hb hg hat
                rw [← Ny230.out] at ho
                have n0_ := As_ (Kd.R_after (ok := (fun k_ => some k_ ≠ (.slice Ao45 y227.length co45 : Value).ownBlock)) (by (with_reducible repeat (first | apply rA_ | apply rN_ | apply rD_)); exact Kd.R_mono HO_216002.out (fun _ hk => ⟨hk.2, hk.1⟩)) hg hat)
                have n1_ := As_ (blk_grown (g := gb208) (o := .cells #[.int .i64 a0_0, .int .i64 a0_1, .slice A0_2 l0_2.length c0_2] 24 (0, 0)) (ak_ BK208.out) hg (Kd.R_ne HO226.out BK208.out (by decide)))
                have n2_ := As_ (blk_grown (g := gb209) (o := .cells #[.int .i64 0, .int .i64 0, .slice none 0 0] 24 (0, 0)) (ak_ BK209.out) hg (Kd.R_ne HO226.out BK209.out (by decide)))
                have n3_ := As_ (blk_grown (g := gb215) (o := .cells #[.int .i64 t210, .int .i64 t211, .slice Ao14 t212.length co14] 24 (0, 0)) (ak_ BK215.out) hg (Kd.R_ne HO226.out BK215.out (by decide)))
                have n4_ := As_ (Kd.R_after (ok := (fun k_ => some k_ ≠ (.slice Ao14 t212.length co14 : Value).ownBlock)) (by (with_reducible repeat (first | apply rA_ | apply rN_ | apply rD_)); exact Kd.R_mono HO229.out (fun _ hk => ⟨hk.2, hk.1⟩)) hg hat)
                have n5_ := As_ (hb)
                have n6_ := As_ (ho)
                clear HO_216002 BK208 BK209 BK215 HO229 HB HO226
                have HO_216002 := n0_
                have BK208 := n1_
                have BK209 := n2_
                have BK215 := n3_
                have HO229 := n4_
                have HB := n5_
                have HO232 := n6_
                clear n0_ n1_ n2_ n3_ n4_ n5_ n6_ ho hb hg hat
                obtain ⟨Ao46, co46, eo46⟩ := Kd.R_slice HO232.out
                (first | subst eo46 | (injection eo46 with f1_ f2_ f3_; have f4_ := f1_.symm; have f5_ := f3_.symm; clear f1_ f2_ f3_; subst f4_; subst f5_))
                refine hK.out _ _ ⟨(blk_cell BK208.out 0).trans rfl, (blk_cell BK208.out 1).trans rfl, (blk_cell BK208.out 2).trans rfl⟩ (fun hHeld => ?_)
                clear hK K
                refine norm_ (a' := ?_) ?_ ?_
                rotate_left
                · show Act.put _ (some 38) _ = _
                  simp only [Act.put, List.setIfInBounds_toArray, List.set_cons_zero, List.set_cons_succ, i64_w, i32_w]
                  rfl
                refine pure_ (i := 12) (N := some 39) (v := ?_) (a' := ?_) #[true, true, true, true, true, true, true, true, true, true, true, true, true, false] rfl rfl (any_of HT_.out (by kernel_rfl)) (fun _ _ _ h => h) (Or.inl ⟨by rfl, ?_⟩) ?_ ?_
                rotate_left
                · intro w'
                  go_simp
                  with_reducible rfl
                rotate_left
                · simp only [Act.put, List.setIfInBounds_toArray, List.set_cons_zero, List.set_cons_succ, i64_w, i32_w]
                  rfl
                refine one_ (i := 13) (N := none) #[true, true, true, true, true, true, true, true, true, true, true, true, true, true] rfl rfl (one_of HT_.out (by kernel_rfl)) (by decide) (fun K hK => ?_)
                have hs47 : w44.cell? ⟨gb215, 2, none⟩ = some (.slice Ao14 t212.length co14) := (blk_cell BK215.out 2).trans rfl
                have hfs47 := blk_frozen BK215.out 2
                have hns47_0 := NB208_215.out
                have hns47_1 := NB209_215.out
                have hms47_0 := NB215_208.out
                have hms47_1 := NB215_209.out
                refine skip_ (w1 := ?_) (by rfl) rfl ?_ ?_
                rotate_left
                · go_simp
                  rfl
                refine hK.out _ _ ⟨((cell_far (p := ⟨gb215, _, none⟩) NB208_215.out _).trans (hHeld.1)), ((cell_far (p := ⟨gb215, _, none⟩) NB208_215.out _).trans (hHeld.2.1)), ((cell_far (p := ⟨gb215, _, none⟩) NB208_215.out _).trans (hHeld.2.2))⟩ (fun hHeld => ?_)
                clear hK K
                refine done_ (done_of HT_.out (by kernel_rfl)) ?_
                try go_wp2
                have n0_ : Aside0 (Kd.R k48 48 (w44.setCell ⟨gb215, 2, none⟩ (.slice Ao46 y230.length co46)) w.heap.size (fun k_ => some k_ ≠ (.slice Ao45 y227.length co45 : Value).ownBlock ∧ some k_ ≠ (.slice Ao46 y230.length co46 : Value).ownBlock) (.slice Ao14 t212.length co14) t212) := ⟨by (with_reducible repeat (first | apply rA_ | apply rN_ | apply rD_)); exact Kd.R_mono (Kd.R_far (p := ⟨gb215, 2, none⟩) (Kd.R_types HO_216002.out BK215.out (by decide)) (fun _ hk => hk.2) (.slice Ao46 y230.length co46)) (fun _ hk => ⟨hk.1.1, hk.1.2⟩)⟩
                have n1_ : Aside0 (Kd.R k48 48 (w44.setCell ⟨gb215, 2, none⟩ (.slice Ao46 y230.length co46)) w.heap.size (fun k_ => some k_ ≠ (.slice Ao14 t212.length co14 : Value).ownBlock ∧ some k_ ≠ (.slice Ao46 y230.length co46 : Value).ownBlock) (.slice Ao45 y227.length co45) y227) := ⟨by (with_reducible repeat (first | apply rA_ | apply rN_ | apply rD_)); exact Kd.R_mono (Kd.R_far (p := ⟨gb215, 2, none⟩) (Kd.R_types HO229.out BK215.out (by decide)) (fun _ hk => hk.2) (.slice Ao46 y230.length co46)) (fun _ hk => ⟨hk.1.1, hk.1.2⟩)⟩
                have n2_ : Aside0 (Kd.R k48 48 (w44.setCell ⟨gb215, 2, none⟩ (.slice Ao46 y230.length co46)) w.heap.size (fun k_ => some k_ ≠ (.slice Ao14 t212.length co14 : Value).ownBlock ∧ some k_ ≠ (.slice Ao45 y227.length co45 : Value).ownBlock) (.slice Ao46 y230.length co46) y230) := ⟨by (with_reducible repeat (first | apply rA_ | apply rN_ | apply rD_)); exact Kd.R_mono (Kd.R_far (p := ⟨gb215, 2, none⟩) (Kd.R_types HO232.out BK215.out (by decide)) (fun _ hk => hk.2) (.slice Ao46 y230.length co46)) (fun _ hk => ⟨hk.1.1, hk.1.2⟩)⟩
                have n3_ : Aside0 ((w44.setCell ⟨gb215, 2, none⟩ (.slice Ao46 y230.length co46)).heap[gb208]? = some (.cells #[.int .i64 a0_0, .int .i64 a0_1, .slice A0_2 l0_2.length c0_2] 24 (0, 0))) := ⟨af_ NB208_215.out BK208.out⟩
                have n4_ : Aside0 ((w44.setCell ⟨gb215, 2, none⟩ (.slice Ao46 y230.length co46)).heap[gb209]? = some (.cells #[.int .i64 0, .int .i64 0, .slice none 0 0] 24 (0, 0))) := ⟨af_ NB209_215.out BK209.out⟩
                have n5_ : Aside0 ((w44.setCell ⟨gb215, 2, none⟩ (.slice Ao46 y230.length co46)).heap[gb215]? = some (.cells #[.int .i64 t210, .int .i64 t211, .slice Ao46 y230.length co46] 24 (0, 0))) := ⟨ap_ BK215.out⟩
                have n6_ : Aside0 (Below w.heap.size w (w44.setCell ⟨gb215, 2, none⟩ (.slice Ao46 y230.length co46))) := ⟨zb3_ HB.out GE208.out GE209.out GE215.out⟩
                (try clear HO_216002)
                (try clear HO229)
                (try clear HO232)
                (try clear BK208)
                (try clear BK209)
                (try clear BK215)
                (try clear HB)
                generalize (w44.setCell ⟨gb215, 2, none⟩ (.slice Ao46 y230.length co46)) = w48 at n0_ n1_ n2_ n3_ n4_ n5_ n6_ ⊢
                have HO_216002 := n0_
                have HO229 := n1_
                have HO232 := n2_
                have BK208 := n3_
                have BK209 := n4_
                have BK215 := n5_
                have HB := n6_
                clear n0_ n1_ n2_ n3_ n4_ n5_ n6_
                replace HO_216002 := As_ (Kd.R_drew HO_216002.out)
                replace HO229 := As_ (Kd.R_drew HO229.out)
                replace HO232 := As_ (Kd.R_drew HO232.out)
                replace BK208 := As_ (blk_drew BK208.out)
                replace BK209 := As_ (blk_drew BK209.out)
                replace BK215 := As_ (blk_drew BK215.out)
                replace HB := As_ (below_drew1 HB.out)
                have q50 : (x7_3 : Int) ≤ ((l0_2.length : Int) : Int) := of_decide_eq_true sm_
                obtain ⟨i050, hi050, _, hsz50, _⟩ := info_parts info48
                have hroom50 : l0_2.length ≤ c0_2 := HC0_2.out
                have hC50 : Kd.C k48 _ A0_2 l0_2.length l0_2 := HR0_2.out
                have q050 : (0 : Int) ≤ (x7_3 : Int) := of_decide_eq_true sm_
                have hcut50 := cut_from (P := Try.prog) 22 48 .i64 Try.underlying22 hi050 2 hsz50 A0_2 l0_2.length c0_2 x7_3 q050 q50
                have hr50 := Kd.C_drop (m := (x7_3 : Int).toNat) (c := c0_2) hC50 (by omega) hroom50
                obtain ⟨A50, hA50⟩ : ∃ A1, A1 = (if c0_2 = (x7_3 : Int).toNat then A0_2 else (A0_2 : Option Addr).map (·.add ((x7_3 : Int).toNat * 2))) := ⟨_, rfl⟩
                obtain ⟨c50, hc50⟩ : ∃ c1, c1 = c0_2 - (x7_3 : Int).toNat := ⟨_, rfl⟩
                have hy50 : y233.length = l0_2.length - (x7_3 : Int).toNat := (by rw [Ny233.out, List.length_drop] <;> omega)
                rw [show (l0_2).drop (x7_3 : Int).toNat = y233 from Ny233.out.symm] at hr50
                replace hr50 : Kd.C k48 _ A50 y233.length y233 := (by rw [hA50]; exact hr50)
                rw [← hy50, ← hA50, ← hc50] at hcut50
                have HR236 := Aside0.mk hr50
                have HC236 := As_ (show y233.length ≤ c50 from by rw [hy50, hc50]; exact Nat.sub_le_sub_right hroom50 _)
                clear hr50 hC50 hroom50 hi050 hsz50 hc50
                have KY50 := Aside0.mk hy50
                have KA50 := Aside0.mk hA50
                clear hy50 hA50
                replace q50 := eq_true q50
                refine start_ (n := 9) (S := fun w' => w'.cell? ⟨gb215, 0, none⟩ = some (.int .i64 t210) ∧ w'.cell? ⟨gb215, 1, none⟩ = some (.int .i64 t211) ∧ w'.cell? ⟨gb215, 2, none⟩ = some (.slice Ao46 y230.length co46) ∧ w'.cell? ⟨gb208, 0, none⟩ = some (.int .i64 a0_0) ∧ w'.cell? ⟨gb208, 1, none⟩ = some (.int .i64 a0_1) ∧ w'.cell? ⟨gb208, 2, none⟩ = some (.slice A0_2 l0_2.length c0_2)) (ds := [8]) #[false, false, false, false, false, false, false, false, false] (by kernel_rfl) rfl rfl ⟨(blk_cell BK215.out 0).trans rfl, (blk_cell BK215.out 1).trans rfl, (blk_cell BK215.out 2).trans rfl, (blk_cell BK208.out 0).trans rfl, (blk_cell BK208.out 1).trans rfl, (blk_cell BK208.out 2).trans rfl⟩ (fun hHeld => ?_); refine with_tabW spec_OpenLane.tab6 spec_OpenLane.bits6 (fun HT_ HW_ => ?_)
                generalize w48.drew = w49 at HO_216002 HO229 HO232 BK208 BK209 BK215 HB HR236 hHeld ⊢
                refine pure_ (i := 0) (N := some 40) (v := ?_) (a' := ?_) #[true, false, false, false, false, false, false, false, false] rfl rfl (any_of HT_.out (by kernel_rfl)) (fun _ _ _ h => h) (Or.inl ⟨by rfl, ?_⟩) ?_ ?_
                rotate_left
                · intro w'
                  go_simp
                  with_reducible rfl
                rotate_left
                · simp only [Act.put, List.setIfInBounds_toArray, List.set_cons_zero, List.set_cons_succ, i64_w, i32_w]
                  rfl
                refine pure_ (i := 2) (N := some 42) (v := ?_) (a' := ?_) #[true, false, true, false, false, false, false, false, false] rfl rfl (any_of HT_.out (by kernel_rfl)) (fun _ _ _ h => h) (Or.inl ⟨by rfl, ?_⟩) ?_ ?_
                rotate_left
                · intro w'
                  go_simp
                  with_reducible rfl
                rotate_left
                · simp only [Act.put, List.setIfInBounds_toArray, List.set_cons_zero, List.set_cons_succ, i64_w, i32_w]
                  rfl
                refine pure_ (i := 4) (N := some 44) (v := ?_) (a' := ?_) #[true, false, true, false, true, false, false, false, false] rfl rfl (any_of HT_.out (by kernel_rfl)) (fun _ _ _ h => h) (Or.inl ⟨by rfl, ?_⟩) ?_ ?_
                rotate_left
                · intro w'
                  go_simp
                  with_reducible rfl
                rotate_left
                · simp only [Act.put, List.setIfInBounds_toArray, List.set_cons_zero, List.set_cons_succ, i64_w, i32_w]
                  rfl
                refine take_ (i := 1) (N := some 41) (v := ?_) (a' := ?_) #[true, true, true, false, true, false, false, false, false] rfl rfl (take_ofW HT_.out HW_.out (by kernel_rfl)) (fun _ _ _ h => h) (Or.inl ⟨by rfl, ?_⟩) hHeld ?_ ?_
                rotate_left
                · rintro w' ⟨s0, s1, s2, s3, s4, s5⟩
                  go_simp
                  with_reducible rfl
                rotate_left
                · simp only [Act.put, List.setIfInBounds_toArray, List.set_cons_zero, List.set_cons_succ, i64_w, i32_w]
                  rfl
                refine take_ (i := 3) (N := some 43) (v := ?_) (a' := ?_) #[true, true, true, true, true, false, false, false, false] rfl rfl (take_ofW HT_.out HW_.out (by kernel_rfl)) (fun _ _ _ h => h) (Or.inl ⟨by rfl, ?_⟩) hHeld ?_ ?_
                rotate_left
                · rintro w' ⟨s0, s1, s2, s3, s4, s5⟩
                  go_simp
                  with_reducible rfl
                rotate_left
                · simp only [Act.put, List.setIfInBounds_toArray, List.set_cons_zero, List.set_cons_succ, i64_w, i32_w]
                  rfl
                refine pure_ (i := 5) (N := some 45) (v := ?_) (a' := ?_) #[true, true, true, true, true, true, false, false, false] rfl rfl (any_of HT_.out (by kernel_rfl)) (fun _ _ _ h => h) (Or.inl ⟨by rfl, ?_⟩) ?_ ?_
                rotate_left
                · intro w'
                  go_simp
                  with_reducible rfl
                rotate_left
                · simp only [Act.put, List.setIfInBounds_toArray, List.set_cons_zero, List.set_cons_succ, i64_w, i32_w]
                  rfl
                refine one_ (i := 6) (N := some 46) #[true, true, true, true, true, true, true, false, false] rfl rfl (one_of HT_.out (by kernel_rfl)) (by decide) (fun K hK => ?_)
                refine Kd.R_append_rows_step k48 (w0 := w) w.heap.size (by rfl) (.tmp 41) (.tmp 45) 22 48 (.agg #[(.int .i64 0), (.int .i64 0)]) 16 rfl Try.underlying22 info48 rfl (by decide) (by omega) (.slice Ao46 y230.length co46) y230 y233 _ _ _ (fun k_ => some k_ ≠ (.slice Ao14 t212.length co14 : Value).ownBlock ∧ some k_ ≠ (.slice Ao45 y227.length co45 : Value).ownBlock) (fun _ => False) rfl rfl ?aO ?aR (fun _ _ h => h) (fun _ h => h.elim) ?aF ?aB ?aS ?aL ?_
                (case aR => repeat (first | exact (Kd.C_below HR236.out HB.out) | (with_reducible first | apply cA_ | apply cN_ | apply cD_)))
                (case aB => exact (zb3_ HB.out GE208.out GE209.out GE215.out))
                (case aF => exact (fun k_ hk => ⟨Kd.fresh' (Kd.R_lt (rk_ HO_216002.out)) k_ hk, Kd.fresh' (Kd.R_lt (rk_ HO229.out)) k_ hk⟩))
                (case aO => exact (rk_ HO232.out))
                (case aS => exact (below_size (zb3_ HB.out GE208.out GE209.out GE215.out)))
                (case aL => have := LMc33.out; omega)
                intro v238 w51 ho hb hg hat
                rw [← Ny237.out] at ho
                have n0_ := As_ (Kd.R_after (ok := (fun k_ => some k_ ≠ (.slice Ao45 y227.length co45 : Value).ownBlock)) (rk_ HO_216002.out) hg hat)
                have n1_ := As_ (blk_grown (g := gb208) (o := .cells #[.int .i64 a0_0, .int .i64 a0_1, .slice A0_2 l0_2.length c0_2] 24 (0, 0)) (ak_ BK208.out) hg (Kd.R_ne HO232.out BK208.out (by decide)))
                have n2_ := As_ (blk_grown (g := gb209) (o := .cells #[.int .i64 0, .int .i64 0, .slice none 0 0] 24 (0, 0)) (ak_ BK209.out) hg (Kd.R_ne HO232.out BK209.out (by decide)))
                have n3_ := As_ (blk_grown (g := gb215) (o := .cells #[.int .i64 t210, .int .i64 t211, .slice Ao46 y230.length co46] 24 (0, 0)) (ak_ BK215.out) hg (Kd.R_ne HO232.out BK215.out (by decide)))
                have n4_ := As_ (Kd.R_after (ok := (fun k_ => some k_ ≠ (.slice Ao14 t212.length co14 : Value).ownBlock)) (rk_ HO229.out) hg hat)
                have n5_ := As_ (hb)
                have n6_ := As_ (ho)
                clear HO_216002 BK208 BK209 BK215 HO229 HB HO232
                have HO_216002 := n0_
                have BK208 := n1_
                have BK209 := n2_
                have BK215 := n3_
                have HO229 := n4_
                have HB := n5_
                have HO239 := n6_
                clear n0_ n1_ n2_ n3_ n4_ n5_ n6_ ho hb hg hat
                obtain ⟨Ao52, co52, eo52⟩ := Kd.R_slice HO239.out
                (first | subst eo52 | (injection eo52 with f1_ f2_ f3_; have f4_ := f1_.symm; have f5_ := f3_.symm; clear f1_ f2_ f3_; subst f4_; subst f5_))
                refine hK.out _ _ ⟨(blk_cell BK215.out 0).trans rfl, (blk_cell BK215.out 1).trans rfl, (blk_cell BK215.out 2).trans rfl, (blk_cell BK208.out 0).trans rfl, (blk_cell BK208.out 1).trans rfl, (blk_cell BK208.out 2).trans rfl⟩ (fun hHeld => ?_)
                clear hK K
                refine norm_ (a' := ?_) ?_ ?_
                rotate_left
                · show Act.put _ (some 46) _ = _
                  simp only [Act.put, List.setIfInBounds_toArray, List.set_cons_zero, List.set_cons_succ, i64_w, i32_w]
                  rfl
                refine pure_ (i := 7) (N := some 47) (v := ?_) (a' := ?_) #[true, true, true, true, true, true, true, true, false] rfl rfl (any_of HT_.out (by kernel_rfl)) (fun _ _ _ h => h) (Or.inl ⟨by rfl, ?_⟩) ?_ ?_
                rotate_left
                · intro w'
                  go_simp
                  with_reducible rfl
                rotate_left
                · simp only [Act.put, List.setIfInBounds_toArray, List.set_cons_zero, List.set_cons_succ, i64_w, i32_w]
                  rfl
                refine last_ (i := 8) (N := none) #[true, true, true, true, true, true, true, true, true] rfl rfl (one_of HT_.out (by kernel_rfl)) (by decide) (fun K hK => ?_)
                have hs53 : w51.cell? ⟨gb215, 2, none⟩ = some (.slice Ao46 y230.length co46) := (blk_cell BK215.out 2).trans rfl
                have hfs53 := blk_frozen BK215.out 2
                have hns53_0 := NB208_215.out
                have hns53_1 := NB209_215.out
                have hms53_0 := NB215_208.out
                have hms53_1 := NB215_209.out
                refine skip_ (w1 := ?_) (by rfl) rfl ?_ ?_
                rotate_left
                · go_simp
                  rfl
                refine hK.out _ _ ?_
                clear hK K
                refine done_ (done_of HT_.out (by kernel_rfl)) ?_
                try go_wp2
                have n0_ : Aside0 (Kd.R k48 48 (w51.setCell ⟨gb215, 2, none⟩ (.slice Ao52 y237.length co52)) w.heap.size (fun k_ => some k_ ≠ (.slice Ao45 y227.length co45 : Value).ownBlock ∧ some k_ ≠ (.slice Ao52 y237.length co52 : Value).ownBlock) (.slice Ao14 t212.length co14) t212) := ⟨by (with_reducible repeat (first | apply rA_ | apply rN_ | apply rD_)); exact Kd.R_mono (Kd.R_far (p := ⟨gb215, 2, none⟩) (Kd.R_types HO_216002.out BK215.out (by decide)) (fun _ hk => hk.2) (.slice Ao52 y237.length co52)) (fun _ hk => ⟨hk.1.1, hk.1.2⟩)⟩
                have n1_ : Aside0 (Kd.R k48 48 (w51.setCell ⟨gb215, 2, none⟩ (.slice Ao52 y237.length co52)) w.heap.size (fun k_ => some k_ ≠ (.slice Ao14 t212.length co14 : Value).ownBlock ∧ some k_ ≠ (.slice Ao52 y237.length co52 : Value).ownBlock) (.slice Ao45 y227.length co45) y227) := ⟨by (with_reducible repeat (first | apply rA_ | apply rN_ | apply rD_)); exact Kd.R_mono (Kd.R_far (p := ⟨gb215, 2, none⟩) (Kd.R_types HO229.out BK215.out (by decide)) (fun _ hk => hk.2) (.slice Ao52 y237.length co52)) (fun _ hk => ⟨hk.1.1, hk.1.2⟩)⟩
                have n2_ : Aside0 (Kd.R k48 48 (w51.setCell ⟨gb215, 2, none⟩ (.slice Ao52 y237.length co52)) w.heap.size (fun k_ => some k_ ≠ (.slice Ao14 t212.length co14 : Value).ownBlock ∧ some k_ ≠ (.slice Ao45 y227.length co45 : Value).ownBlock) (.slice Ao52 y237.length co52) y237) := ⟨by (with_reducible repeat (first | apply rA_ | apply rN_ | apply rD_)); exact Kd.R_mono (Kd.R_far (p := ⟨gb215, 2, none⟩) (Kd.R_types HO239.out BK215.out (by decide)) (fun _ hk => hk.2) (.slice Ao52 y237.length co52)) (fun _ hk => ⟨hk.1.1, hk.1.2⟩)⟩
                have n3_ : Aside0 ((w51.setCell ⟨gb215, 2, none⟩ (.slice Ao52 y237.length co52)).heap[gb208]? = some (.cells #[.int .i64 a0_0, .int .i64 a0_1, .slice A0_2 l0_2.length c0_2] 24 (0, 0))) := ⟨af_ NB208_215.out BK208.out⟩
                have n4_ : Aside0 ((w51.setCell ⟨gb215, 2, none⟩ (.slice Ao52 y237.length co52)).heap[gb209]? = some (.cells #[.int .i64 0, .int .i64 0, .slice none 0 0] 24 (0, 0))) := ⟨af_ NB209_215.out BK209.out⟩
                have n5_ : Aside0 ((w51.setCell ⟨gb215, 2, none⟩ (.slice Ao52 y237.length co52)).heap[gb215]? = some (.cells #[.int .i64 t210, .int .i64 t211, .slice Ao52 y237.length co52] 24 (0, 0))) := ⟨ap_ BK215.out⟩
                have n6_ : Aside0 (Below w.heap.size w (w51.setCell ⟨gb215, 2, none⟩ (.slice Ao52 y237.length co52))) := ⟨zb3_ HB.out GE208.out GE209.out GE215.out⟩
                (try clear HO_216002)
                (try clear HO229)
                (try clear HO239)
                (try clear BK208)
                (try clear BK209)
                (try clear BK215)
                (try clear HB)
                generalize (w51.setCell ⟨gb215, 2, none⟩ (.slice Ao52 y237.length co52)) = w54 at n0_ n1_ n2_ n3_ n4_ n5_ n6_ ⊢
                have HO_216002 := n0_
                have HO229 := n1_
                have HO239 := n2_
                have BK208 := n3_
                have BK209 := n4_
                have BK215 := n5_
                have HB := n6_
                clear n0_ n1_ n2_ n3_ n4_ n5_ n6_
                replace HO_216002 := As_ (Kd.R_drew HO_216002.out)
                replace HO229 := As_ (Kd.R_drew HO229.out)
                replace HO239 := As_ (Kd.R_drew HO239.out)
                replace BK208 := As_ (blk_drew BK208.out)
                replace BK209 := As_ (blk_drew BK209.out)
                replace BK215 := As_ (blk_drew BK215.out)
                replace HB := As_ (below_drew1 HB.out)
                refine start_ (n := 11) (S := fun w' => w'.cell? ⟨gb208, 0, none⟩ = some (.int .i64 a0_0) ∧ w'.cell? ⟨gb208, 1, none⟩ = some (.int .i64 a0_1) ∧ w'.cell? ⟨gb208, 2, none⟩ = some (.slice A0_2 l0_2.length c0_2) ∧ w'.cell? ⟨gb215, 0, none⟩ = some (.int .i64 t210) ∧ w'.cell? ⟨gb215, 1, none⟩ = some (.int .i64 t211) ∧ w'.cell? ⟨gb215, 2, none⟩ = some (.slice Ao52 y237.length co52)) (ds := []) #[false, false, false, false, false, false, false, false, false, false, false] (by kernel_rfl) rfl rfl ⟨(blk_cell BK208.out 0).trans rfl, (blk_cell BK208.out 1).trans rfl, (blk_cell BK208.out 2).trans rfl, (blk_cell BK215.out 0).trans rfl, (blk_cell BK215.out 1).trans rfl, (blk_cell BK215.out 2).trans rfl⟩ (fun hHeld => ?_); refine with_tabW spec_OpenLane.tab7 spec_OpenLane.bits7 (fun HT_ HW_ => ?_)
                generalize w54.drew = w55 at HO_216002 HO229 HO239 BK208 BK209 BK215 HB hHeld ⊢
                refine pure_ (i := 3) (N := some 51) (v := ?_) (a' := ?_) #[false, false, false, true, false, false, false, false, false, false, false] rfl rfl (any_of HT_.out (by kernel_rfl)) (fun _ _ _ h => h) (Or.inl ⟨by rfl, ?_⟩) ?_ ?_
                rotate_left
                · intro w'
                  go_simp
                  with_reducible rfl
                rotate_left
                · simp only [Act.put, List.setIfInBounds_toArray, List.set_cons_zero, List.set_cons_succ, i64_w, i32_w]
                  rfl
                refine take_ (i := 0) (N := some 48) (v := ?_) (a' := ?_) #[true, false, false, true, false, false, false, false, false, false, false] rfl rfl (take_ofW HT_.out HW_.out (by kernel_rfl)) (fun _ _ _ h => h) (Or.inl ⟨by rfl, ?_⟩) hHeld ?_ ?_
                rotate_left
                · rintro w' ⟨s0, s1, s2, s3, s4, s5⟩
                  go_simp
                  with_reducible rfl
                rotate_left
                · simp only [Act.put, List.setIfInBounds_toArray, List.set_cons_zero, List.set_cons_succ, i64_w, i32_w]
                  rfl
                refine take_ (i := 1) (N := some 49) (v := ?_) (a' := ?_) #[true, true, false, true, false, false, false, false, false, false, false] rfl rfl (take_ofW HT_.out HW_.out (by kernel_rfl)) (fun _ _ _ h => h) (Or.inl ⟨by rfl, ?_⟩) hHeld ?_ ?_
                rotate_left
                · rintro w' ⟨s0, s1, s2, s3, s4, s5⟩
                  go_simp
                  with_reducible rfl
                rotate_left
                · simp only [Act.put, List.setIfInBounds_toArray, List.set_cons_zero, List.set_cons_succ, i64_w, i32_w]
                  rfl
                refine take_ (i := 2) (N := some 50) (v := ?_) (a' := ?_) #[true, true, true, true, false, false, false, false, false, false, false] rfl rfl (take_ofW HT_.out HW_.out (by kernel_rfl)) (fun _ _ _ h => h) (Or.inl ⟨by rfl, ?_⟩) hHeld ?_ ?_
                rotate_left
                · rintro w' ⟨s0, s1, s2, s3, s4, s5⟩
                  go_simp
                  with_reducible rfl
                rotate_left
                · simp only [Act.put, List.setIfInBounds_toArray, List.set_cons_zero, List.set_cons_succ, i64_w, i32_w]
                  rfl
                refine one_ (i := 4) (N := some 52) #[true, true, true, true, true, false, false, false, false, false, false] rfl rfl (one_of HT_.out (by kernel_rfl)) (by decide) (fun K hK => ?_)
                refine goes_ Try.func46 (by kernel_rfl) rfl #[.agg #[.int .i64 a0_0, .int .i64 a0_1, .slice A0_2 l0_2.length c0_2], .int .i64 a1] (by rfl) rfl rfl tm_ ?_
                with_reducible refine (spec_l10At.calls kj3 a0_0 a0_1 _ _ l0_2 a1 t240 _ ?side1 ?side2 A34.out).mono ?_
                (case side1 => repeat (first | exact (Kd.C_below HR0_2.out HB.out) | (with_reducible first | apply cA_ | apply cN_ | apply cD_)))
                (case side2 => exact HC0_2.out)
                rintro e w56 ⟨rfl, hb⟩
                refine ⟨_, rfl, ?_⟩
                replace HO_216002 := As_ (Kd.R_below (rk_ HO_216002.out) hb)
                replace HO229 := As_ (Kd.R_below (rk_ HO229.out) hb)
                replace HO239 := As_ (Kd.R_below (rk_ HO239.out) hb)
                replace BK208 := As_ (blk_below (g := gb208) (o := .cells #[.int .i64 a0_0, .int .i64 a0_1, .slice A0_2 l0_2.length c0_2] 24 (0, 0)) (ak_ BK208.out) hb)
                replace BK209 := As_ (blk_below (g := gb209) (o := .cells #[.int .i64 0, .int .i64 0, .slice none 0 0] 24 (0, 0)) (ak_ BK209.out) hb)
                replace BK215 := As_ (blk_below (g := gb215) (o := .cells #[.int .i64 t210, .int .i64 t211, .slice Ao52 y237.length co52] 24 (0, 0)) (ak_ BK215.out) hb)
                replace HB := As_ (below_step (zb3_ HB.out GE208.out GE209.out GE215.out) hb)
                (try clear hb)
                (try clear hb2)
                (try clear hk)
                (try clear hi)
                refine hK.out _ _ ⟨(blk_cell BK208.out 0).trans rfl, (blk_cell BK208.out 1).trans rfl, (blk_cell BK208.out 2).trans rfl, (blk_cell BK215.out 0).trans rfl, (blk_cell BK215.out 1).trans rfl, (blk_cell BK215.out 2).trans rfl⟩ (fun hHeld => ?_)
                clear hK K
                refine norm_ (a' := ?_) ?_ ?_
                rotate_left
                · show Act.put _ (some 52) _ = _
                  simp only [Act.put, List.setIfInBounds_toArray, List.set_cons_zero, List.set_cons_succ, i64_w, i32_w]
                  rfl
                refine pure_ (i := 5) (N := some 53) (v := ?_) (a' := ?_) #[true, true, true, true, true, true, false, false, false, false, false] rfl rfl (any_of HT_.out (by kernel_rfl)) (fun _ _ _ h => h) (Or.inl ⟨by rfl, ?_⟩) ?_ ?_
                rotate_left
                · intro w'
                  go_simp
                  with_reducible rfl
                rotate_left
                · simp only [Act.put, List.setIfInBounds_toArray, List.set_cons_zero, List.set_cons_succ, i64_w, i32_w]
                  rfl
                refine one_ (i := 6) (N := some 54) #[true, true, true, true, true, true, true, false, false, false, false] rfl rfl (one_of HT_.out (by kernel_rfl)) (by decide) (fun K hK => ?_)
                refine goes_ Try.func48 (by kernel_rfl) rfl #[.agg #[.int .i64 a0_0, .int .i64 a0_1, .slice A0_2 l0_2.length c0_2], .agg #[.int .i64 t210, .int .i64 t211, .slice Ao52 y237.length co52], .bool (decide (t240 < 0))] (by rfl) rfl rfl tm_ ?_
                with_reducible refine (spec_l10Ends.calls kj3 a0_0 a0_1 _ _ l0_2 t210 t211 (fun k_ => some k_ = (.slice Ao52 y237.length co52 : Value).ownBlock) (.slice Ao52 y237.length co52) y237 (decide (t240 < 0)) t241 t242 t243 t246 w _ ?side1 ?side2 ?side3 ?side4 A35.out).mono ?_
                (case side1 => repeat (first | (with_reducible first | exact HB.out | apply bA_ | apply bN_ | apply bD_ | refine bS_ ?_ GE208.out | refine bS_ ?_ GE209.out | refine bS_ ?_ GE215.out) | exact HB.out))
                (case side2 => exact Kd.C_kept_came k48_heap HR0_2.out (zb3_ HB.out GE208.out GE209.out GE215.out) (fun k_ hs_ => (fun e_ => Kd.R_base HO239.out k_ e_.symm) hs_))
                (case side3 => exact HC0_2.out)
                (case side4 => exact Kd.R_tight rfl HO239.out)
                rintro e w57 ⟨v244, rfl, ho0, hb, hkp⟩
                refine ⟨_, rfl, ?_⟩
                have n0_ := As_ (Kd.R_mono (ok' := fun k_ => some k_ ≠ (.slice Ao45 y227.length co45 : Value).ownBlock ∧ some k_ ≠ (v244 : Value).ownBlock) (Kd.R_keptB (HO_216002.out) hkp (fun k_ hk_ hs_ => (hk_.2) hs_)) (fun k_ hk_ => ⟨hk_.1.1, fun e_ => Or.elim (ho0.1 k_ e_.symm) (fun hs_ => hk_.2.1 hs_) (fun hn_ => Nat.not_le.2 hk_.2.2 hn_)⟩))
                replace BK208 := As_ (blk_kept (ak_ BK208.out) hkp (fun hs_ => (fun e_ => (Kd.R_ne HO239.out BK208.out (by decide)) e_) hs_))
                replace BK209 := As_ (blk_kept (ak_ BK209.out) hkp (fun hs_ => (fun e_ => (Kd.R_ne HO239.out BK209.out (by decide)) e_) hs_))
                replace BK215 := As_ (blk_kept (ak_ BK215.out) hkp (fun hs_ => (fun e_ => (Kd.R_ne HO239.out BK215.out (by decide)) e_) hs_))
                have n4_ := As_ (Kd.R_mono (ok' := fun k_ => some k_ ≠ (.slice Ao14 t212.length co14 : Value).ownBlock ∧ some k_ ≠ (v244 : Value).ownBlock) (Kd.R_keptB (HO229.out) hkp (fun k_ hk_ hs_ => (hk_.2) hs_)) (fun k_ hk_ => ⟨hk_.1.1, fun e_ => Or.elim (ho0.1 k_ e_.symm) (fun hs_ => hk_.2.1 hs_) (fun hn_ => Nat.not_le.2 hk_.2.2 hn_)⟩))
                have HO245 := As_ (Kd.R_mono (ok' := fun k_ => some k_ ≠ (.slice Ao14 t212.length co14 : Value).ownBlock ∧ some k_ ≠ (.slice Ao45 y227.length co45 : Value).ownBlock) ho0 (fun k_ hk_ => ⟨Or.elim hk_ (fun hs_ => fun e_ => (((HO_216002.out).1 k_ e_.symm).2) hs_) (fun hn_ => (Kd.fresh' (Kd.R_lt (rk_ HO_216002.out)) k_ hn_)), Or.elim hk_ (fun hs_ => fun e_ => (((HO229.out).1 k_ e_.symm).2) hs_) (fun hn_ => (Kd.fresh' (Kd.R_lt (rk_ HO229.out)) k_ hn_))⟩))
                replace HB := As_ (hb)
                clear HO_216002 HO229 HO239
                have HO_216002 := n0_
                have HO229 := n4_
                clear n0_ n4_
                (try clear hb)
                (try clear hkp)
                (try clear ho0)
                obtain ⟨Ao60, co60, eo60⟩ := Kd.R_slice HO245.out
                (first | subst eo60 | (injection eo60 with f1_ f2_ f3_; have f4_ := f1_.symm; have f5_ := f3_.symm; clear f1_ f2_ f3_; subst f4_; subst f5_))
                refine hK.out _ _ ⟨(blk_cell BK208.out 0).trans rfl, (blk_cell BK208.out 1).trans rfl, (blk_cell BK208.out 2).trans rfl, (blk_cell BK215.out 0).trans rfl, (blk_cell BK215.out 1).trans rfl, (blk_cell BK215.out 2).trans rfl⟩ (fun hHeld => ?_)
                clear hK K
                refine norm_ (a' := ?_) ?_ ?_
                rotate_left
                · show Act.put _ (some 54) _ = _
                  simp only [Act.put, List.setIfInBounds_toArray, List.set_cons_zero, List.set_cons_succ, i64_w, i32_w]
                  rfl
                refine pure_ (i := 7) (N := some 55) (v := ?_) (a' := ?_) #[true, true, true, true, true, true, true, true, false, false, false] rfl rfl (any_of HT_.out (by kernel_rfl)) (fun _ _ _ h => h) (Or.inl ⟨by rfl, ?_⟩) ?_ ?_
                rotate_left
                · intro w'
                  go_simp
                  with_reducible rfl
                rotate_left
                · simp only [Act.put, List.setIfInBounds_toArray, List.set_cons_zero, List.set_cons_succ, i64_w, i32_w]
                  rfl
                refine pure_ (i := 8) (N := some 56) (v := ?_) (a' := ?_) #[true, true, true, true, true, true, true, true, true, false, false] rfl rfl (any_of HT_.out (by kernel_rfl)) (fun _ _ _ h => h) (Or.inl ⟨by rfl, ?_⟩) ?_ ?_
                rotate_left
                · intro w'
                  go_simp
                  with_reducible rfl
                rotate_left
                · simp only [Act.put, List.setIfInBounds_toArray, List.set_cons_zero, List.set_cons_succ, i64_w, i32_w]
                  rfl
                refine one_ (i := 9) (N := none) #[true, true, true, true, true, true, true, true, true, true, false] rfl rfl (one_of HT_.out (by kernel_rfl)) (by decide) (fun K hK => ?_)
                have hs58 : w57.cell? ⟨gb209, 0, none⟩ = some (.int .i64 0) := (blk_cell BK209.out 0).trans rfl
                have hfs58 := blk_frozen BK209.out 0
                have hns58_0 := NB208_209.out
                have hns58_2 := NB215_209.out
                have hms58_0 := NB209_208.out
                have hms58_2 := NB209_215.out
                have hs59 : w57.cell? ⟨gb209, 1, none⟩ = some (.int .i64 0) := (blk_cell BK209.out 1).trans rfl
                have hfs59 := blk_frozen BK209.out 1
                have hns59_0 := NB208_209.out
                have hns59_2 := NB215_209.out
                have hms59_0 := NB209_208.out
                have hms59_2 := NB209_215.out
                have hs61 : w57.cell? ⟨gb209, 2, none⟩ = some (.slice none 0 0) := (blk_cell BK209.out 2).trans rfl
                have hfs61 := blk_frozen BK209.out 2
                have hns61_0 := NB208_209.out
                have hns61_2 := NB215_209.out
                have hms61_0 := NB209_208.out
                have hms61_2 := NB209_215.out
                refine skip_ (w1 := ?_) (by rfl) rfl ?_ ?_
                rotate_left
                · go_simp
                  rfl
                refine hK.out _ _ ⟨((cell_far (p := ⟨gb209, _, none⟩) NB208_209.out _).trans (((cell_far (p := ⟨gb209, _, none⟩) NB208_209.out _).trans (((cell_far (p := ⟨gb209, _, none⟩) NB208_209.out _).trans (hHeld.1)))))), ((cell_far (p := ⟨gb209, _, none⟩) NB208_209.out _).trans (((cell_far (p := ⟨gb209, _, none⟩) NB208_209.out _).trans (((cell_far (p := ⟨gb209, _, none⟩) NB208_209.out _).trans (hHeld.2.1)))))), ((cell_far (p := ⟨gb209, _, none⟩) NB208_209.out _).trans (((cell_far (p := ⟨gb209, _, none⟩) NB208_209.out _).trans (((cell_far (p := ⟨gb209, _, none⟩) NB208_209.out _).trans (hHeld.2.2.1)))))), ((cell_far (p := ⟨gb209, _, none⟩) NB215_209.out _).trans (((cell_far (p := ⟨gb209, _, none⟩) NB215_209.out _).trans (((cell_far (p := ⟨gb209, _, none⟩) NB215_209.out _).trans (hHeld.2.2.2.1)))))), ((cell_far (p := ⟨gb209, _, none⟩) NB215_209.out _).trans (((cell_far (p := ⟨gb209, _, none⟩) NB215_209.out _).trans (((cell_far (p := ⟨gb209, _, none⟩) NB215_209.out _).trans (hHeld.2.2.2.2.1)))))), ((cell_far (p := ⟨gb209, _, none⟩) NB215_209.out _).trans (((cell_far (p := ⟨gb209, _, none⟩) NB215_209.out _).trans (((cell_far (p := ⟨gb209, _, none⟩) NB215_209.out _).trans (hHeld.2.2.2.2.2))))))⟩ (fun hHeld => ?_)
                clear hK K
                refine pure_ (i := 10) (N := some 5) (v := ?_) (a' := ?_) #[true, true, true, true, true, true, true, true, true, true, true] rfl rfl (any_of HT_.out (by kernel_rfl)) (fun _ _ _ h => h) (Or.inl ⟨by rfl, ?_⟩) ?_ ?_
                rotate_left
                · intro w'
                  go_simp
                  with_reducible rfl
                rotate_left
                · simp only [Act.put, List.setIfInBounds_toArray, List.set_cons_zero, List.set_cons_succ, i64_w, i32_w]
                  rfl
                refine done_ (done_of HT_.out (by kernel_rfl)) ?_
                try go_wp2
                refine bodyPost_ret (results_ct rfl _ _ gb209 24 #[.int .i64 t241, .int .i64 t242, .slice Ao60 t243.length co60] (0, 0) _ rfl (ap_ BK209.out) Try.underlying24 rfl (by kernel_rfl)) rfl ?_
                exact ⟨_, by first | rfl | (simp [errW_none, errW_some] <;> rfl) | (simp [*, errW_none, errW_some] <;> rfl), rt3_ HO245.out BK209.out, zb3_ HB.out GE208.out GE209.out GE215.out⟩
              · rw [if_neg c33] at H
                exact absurd H (by simp)
            · rw [if_neg c30] at H
              exact absurd H (by simp)
          · rw [if_neg c29] at H
            exact absurd H (by simp)
        · rw [if_neg c28] at H
          exact absurd H (by simp)
      · rw [if_neg c27] at H
        exact absurd H (by simp)

end Go.Proofs.Ytejnagdmfooemaa.QFnLanes
