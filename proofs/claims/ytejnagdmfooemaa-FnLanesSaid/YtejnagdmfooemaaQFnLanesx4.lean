/- Contracts of functions of the translation, each with its pure function; printed by a program of this session (wip/pr.py) over the kit's print; no condition of its own. -/
import Derived.Test.YtejnagdmfooemaaQFnLanesx0
import Derived.Test.YtejnagdmfooemaaQFnLanesx1
import Derived.Test.YtejnagdmfooemaaQFnLanesx3
namespace Go.Proofs.Ytejnagdmfooemaa.QFnLanes
open Go.RowKit Go.Proofs.YtejnagdmfooemaaW.PrintWords Go.Proofs.YtejnagdmfooemaaW.PrintLast Go.Proofs.YtejnagdmfooemaaW.PrintMore
attribute [local go_sem] max2_int min2_int max_two min_two max_three min_three max_four min_four   -- for this text's walks alone
set_option linter.unusedVariables false
set_option linter.unusedSimpArgs false

/-! ### impl_NewInit: function 25 -/
mutual
def impl_NewInit.j0 : Nat → Int → Bool → Int → Int → List (S48) → Int → Int → List (S48) → Option (Int × Int × (List (S48)) × Bool)
  | 0, _, _, _, _, _, _, _, _ => none
  | k + 1, x1, x18, x172000, x172001, x172002, x179000, x179001, x179002 => if x18 = true then (some (x179000, x179001, x179002, false)) else (impl_NewInit.l0 k (wrap64 (x1 - x172001)) (x179002.length : Int) 0 x172000 x172001 x172002 x179000 x1 x179002)
def impl_NewInit.l0 : Nat → Int → Int → Int → Int → Int → List (S48) → Int → Int → List (S48) → Option (Int × Int × (List (S48)) × Bool)
  | 0, _, _, _, _, _, _, _, _, _ => none
  | k + 1, x7, x28, x29, x172000, x172001, x172002, x179000, x179001, x179002 => if x29 < x28 then (if 0 ≤ x29 then (if x29 < (x179002.length : Int) then ((some (x179002.set (x29 : Int).toNat (⟨(rd_T48 x179002 x29).f0, wrap64 (((rd_T48 x179002 x29).f1) + x7)⟩ : S48) : List (S48))).bind fun y182 => ((impl_inRange.f ((rd_T48 y182 x29).f1) (-2147483647) 2147483647).bind fun t184 => (if t184 = true then (impl_NewInit.l0 k x7 x28 (wrap64 (x29 + 1)) x172000 x172001 x172002 x179000 x179001 y182) else ((impl_copyFlow.f x172000 x172001 x172002).bind fun bt185 => (some (bt185.1, bt185.2.1, bt185.2.2, false)))))) else (none)) else (none)) else (some (x179000, x179001, x179002, true))
end
def impl_NewInit.f (k : Nat) (a0_0 : Int) (a0_1 : Int) (l0_2 : List (S48)) (a1 : Int) : Option (Int × Int × (List (S48)) × Bool) := (impl_copyFlow.f a0_0 a0_1 l0_2).bind fun bt173 => ((impl_isWindow.f a1).bind fun t179 => (if t179 = true then ((impl_FlowOk.f k a0_0 a0_1 l0_2).bind fun t180 => (impl_NewInit.j0 k a1 (!t180) a0_0 a0_1 l0_2 bt173.1 bt173.2.1 bt173.2.2)) else (impl_NewInit.j0 k a1 true a0_0 a0_1 l0_2 bt173.1 bt173.2.1 bt173.2.2)))
theorem impl_NewInit.mono_l : ∀ k, (∀ y0 y1 y2 y3 y4 y5 y6 y7, LeO (impl_NewInit.j0 k y0 y1 y2 y3 y4 y5 y6 y7) (impl_NewInit.j0 (k + 1) y0 y1 y2 y3 y4 y5 y6 y7)) ∧ (∀ y0 y1 y2 y3 y4 y5 y6 y7 y8, LeO (impl_NewInit.l0 k y0 y1 y2 y3 y4 y5 y6 y7 y8) (impl_NewInit.l0 (k + 1) y0 y1 y2 y3 y4 y5 y6 y7 y8))
  | 0 => ⟨fun _ _ _ _ _ _ _ _ r h => by simp [impl_NewInit.j0] at h, fun _ _ _ _ _ _ _ _ _ r h => by simp [impl_NewInit.l0] at h⟩
  | k + 1 => by
    obtain ⟨ih0, ih1⟩ := impl_NewInit.mono_l k
    refine ⟨?_, ?_⟩
    · intro y0 y1 y2 y3 y4 y5 y6 y7
      unfold impl_NewInit.j0
      repeat' first
      | (with_reducible exact ih0 _ _ _ _ _ _ _ _)
      | (with_reducible exact ih1 _ _ _ _ _ _ _ _ _)
      | (with_reducible exact impl_FlowOk.mono _ _ _ _)
      | (with_reducible exact LeO.refl _)
      | (with_reducible exact LeO.none _)
      | (with_reducible refine LeO.ite ?_ ?_)
      | (with_reducible refine LeO.bind ?_ (fun _ => ?_))
      | exact ih0 _ _ _ _ _ _ _ _
      | exact ih1 _ _ _ _ _ _ _ _ _
      | exact impl_FlowOk.mono _ _ _ _
      | exact LeO.none _
      | refine LeO.ite ?_ ?_
      | refine LeO.bind ?_ (fun _ => ?_)
    · intro y0 y1 y2 y3 y4 y5 y6 y7 y8
      unfold impl_NewInit.l0
      repeat' first
      | (with_reducible exact ih0 _ _ _ _ _ _ _ _)
      | (with_reducible exact ih1 _ _ _ _ _ _ _ _ _)
      | (with_reducible exact impl_FlowOk.mono _ _ _ _)
      | (with_reducible exact LeO.refl _)
      | (with_reducible exact LeO.none _)
      | (with_reducible refine LeO.ite ?_ ?_)
      | (with_reducible refine LeO.bind ?_ (fun _ => ?_))
      | exact ih0 _ _ _ _ _ _ _ _
      | exact ih1 _ _ _ _ _ _ _ _ _
      | exact impl_FlowOk.mono _ _ _ _
      | exact LeO.none _
      | refine LeO.ite ?_ ?_
      | refine LeO.bind ?_ (fun _ => ?_)
theorem impl_NewInit.mono : ∀ a0 a1 a2 a3 k, LeO (impl_NewInit.f k a0 a1 a2 a3) (impl_NewInit.f (k + 1) a0 a1 a2 a3) := by
  intro a0 a1 a2 a3 k
  obtain ⟨ih0, ih1⟩ := impl_NewInit.mono_l k
  unfold impl_NewInit.f
  repeat' first
      | (with_reducible exact ih0 _ _ _ _ _ _ _ _)
      | (with_reducible exact ih1 _ _ _ _ _ _ _ _ _)
      | (with_reducible exact impl_FlowOk.mono _ _ _ _)
      | (with_reducible exact LeO.refl _)
      | (with_reducible exact LeO.none _)
      | (with_reducible refine LeO.ite ?_ ?_)
      | (with_reducible refine LeO.bind ?_ (fun _ => ?_))
      | exact ih0 _ _ _ _ _ _ _ _
      | exact ih1 _ _ _ _ _ _ _ _ _
      | exact impl_FlowOk.mono _ _ _ _
      | exact LeO.none _
      | refine LeO.ite ?_ ?_
      | refine LeO.bind ?_ (fun _ => ?_)
set_option maxHeartbeats 8000000 in
set_option maxRecDepth 100000 in
theorem impl_NewInit.calls (k : Nat) (a0_0 : Int) (a0_1 : Int) (A0_2 : Option Addr) (c0_2 : Nat) (l0_2 : List (S48)) (a1 : Int) (r1 : Int) (r2 : Int) (r3 : List (S48)) (r4 : Bool) (w : World) (hr0_2 : Kd.C k48 w A0_2 l0_2.length l0_2) (hc0_2 : l0_2.length ≤ c0_2) (h : impl_NewInit.f k a0_0 a0_1 l0_2 a1 = some (r1, r2, r3, r4)) :
    Calls Try.prog 25 #[.agg #[.int .i64 a0_0, .int .i64 a0_1, .slice A0_2 l0_2.length c0_2], .int .i64 a1] w fun e w' => ∃ v2_ : Value, e = .returned (.tuple #[.agg #[.int .i64 r1, .int .i64 r2, v2_], .bool r4]) ∧ Kd.R k48 48 w' w.heap.size (fun _ => True) v2_ r3 ∧ Below w.heap.size w w' := by
  have hu24 := Try.underlying24
  have HR0_2 := Aside0.mk hr0_2
  have HC0_2 := Aside0.mk hc0_2
  clear hr0_2 hc0_2
  have HB := As_ (Below.refl w.heap.size w)
  have H : ((impl_copyFlow.f a0_0 a0_1 l0_2).bind fun bt173 => ((impl_isWindow.f a1).bind fun t179 => (if t179 = true then ((impl_FlowOk.f k a0_0 a0_1 l0_2).bind fun t180 => (impl_NewInit.j0 k a1 (!t180) a0_0 a0_1 l0_2 bt173.1 bt173.2.1 bt173.2.2)) else (impl_NewInit.j0 k a1 true a0_0 a0_1 l0_2 bt173.1 bt173.2.1 bt173.2.2)))) = some (r1, r2, r3, r4) := h
  clear h
  replace H := Option.bind_eq_some_iff.mp H
  obtain ⟨⟨t173, t174, t175⟩, A30, H⟩ := H
  replace H : ((impl_isWindow.f a1).bind fun t179 => (if t179 = true then ((impl_FlowOk.f k a0_0 a0_1 l0_2).bind fun t180 => (impl_NewInit.j0 k a1 (!t180) a0_0 a0_1 l0_2 t173 t174 t175)) else (impl_NewInit.j0 k a1 true a0_0 a0_1 l0_2 t173 t174 t175))) = some (r1, r2, r3, r4) := H
  have A3 := Aside0.mk A30
  clear A30
  have HC4 := Aside0.mk H
  clear H
  go_enter Try.func25, Try.ntmps25
  go_upto_region 2 with (first | ((with_reducible refine gate_dst (N := 2) rfl ?_); refine box_event ?hg (N := 2) ?hd (cs := #[.int .i64 a0_0, .int .i64 a0_1, .slice A0_2 l0_2.length c0_2]) (t := 24) ?hr ?_; (case hd => rfl); (case hg => rfl); (case hr => first | (go_simp; done) | (go_simp; rfl)); intro gb171 hg w5 hbox hb; have n0_ := As_ (below_step (zb0_ HB.out) hb); have n1_ := As_ (hbox); have n2_ := As_ ((sb_ hg (zb0_ HB.out) : w.heap.size ≤ gb171)); have n3_ := As_ ((sb_ hg (zb0_ HB.out) : w.heap.size ≤ gb171)); clear HB; have HB := n0_; have BK171 := n1_; have GW171 := n2_; have GE171 := n3_; clear n0_ n1_ n2_ n3_ hb hbox hg) | ((with_reducible refine gate_dst (N := 4) rfl ?_); refine box_event ?hg (N := 4) ?hd (cs := #[.int .i64 0, .int .i64 0, .slice none 0 0]) (t := 24) ?hr ?_; (case hd => rfl); (case hg => rfl); (case hr => first | (go_simp; done) | (go_simp; rfl)); intro gb172 hg w6 hbox hb; have n0_ := As_ (blk_below (g := gb171) (o := .cells #[.int .i64 a0_0, .int .i64 a0_1, .slice A0_2 l0_2.length c0_2] 24 (0, 0)) (ak_ BK171.out) hb); have n1_ := As_ (below_step (zb1_ HB.out GE171.out) hb); have n2_ := As_ (hbox); have n3_ := As_ ((sb_ hg (zb1_ HB.out GE171.out) : w.heap.size ≤ gb172)); have n4_ := As_ ((sb_ hg (zb1_ HB.out GE171.out) : w.heap.size ≤ gb172)); have n5_ := As_ ((nl_ hg BK171.out : gb171 ≠ gb172)); have n6_ := As_ ((ng_ hg BK171.out : gb172 ≠ gb171)); clear BK171 HB; have BK171 := n0_; have HB := n1_; have BK172 := n2_; have GW172 := n3_; have GE172 := n4_; have NB171_172 := n5_; have NB172_171 := n6_; clear n0_ n1_ n2_ n3_ n4_ n5_ n6_ hb hbox hg; have hnb7 := NB171_172.out; have hnc7 := NB172_171.out; obtain ⟨hcz8_0, hcz8_1, hcz8_2, hfz8_0, hfz8_1, hfz8_2⟩ := blk_all3 BK171.out) | ((with_reducible refine gate_callee (f := 49) rfl ?_); refine goesL_ (some 10) rfl rfl Try.func49 (by kernel_rfl) rfl #[.agg #[.int .i64 a0_0, .int .i64 a0_1, .slice A0_2 l0_2.length c0_2]] rfl tm_ ?_; (with_reducible refine (impl_copyFlow.calls a0_0 a0_1 _ _ l0_2 t173 t174 t175 _ ?side1 ?side2 A3.out).mono ?_); (case side1 => repeat (first | exact (Kd.C_below HR0_2.out HB.out) | (with_reducible first | apply cA_ | apply cN_ | apply cD_))); (case side2 => exact HC0_2.out); rintro e w9 ⟨v176, rfl, ho0, hb⟩; refine ⟨_, rfl, ?_⟩; have HO177 := As_ (Kd.R_lower ho0 (below_size (zb2_ HB.out GE171.out GE172.out))); replace BK171 := As_ (blk_below (g := gb171) (o := .cells #[.int .i64 a0_0, .int .i64 a0_1, .slice A0_2 l0_2.length c0_2] 24 (0, 0)) (ak_ BK171.out) hb); replace BK172 := As_ (blk_below (g := gb172) (o := .cells #[.int .i64 0, .int .i64 0, .slice none 0 0] 24 (0, 0)) (ak_ BK172.out) hb); replace HB := As_ (below_step (zb2_ HB.out GE171.out GE172.out) hb); (try clear hb); (try clear hb2); (try clear hk); (try clear hi); (try clear ho0)) | ((with_reducible refine gate_dst (N := 6) rfl ?_); refine box_event ?hg (N := 6) ?hd (cs := #[.int .i64 0, .int .i64 0, .slice none 0 0]) (t := 24) ?hr ?_; (case hd => rfl); (case hg => rfl); (case hr => first | (go_simp; done) | (go_simp; rfl)); intro gb178 hg w10 hbox hb; have n0_ := As_ (Kd.R_below (rk_ HO177.out) hb); have n1_ := As_ (blk_below (g := gb171) (o := .cells #[.int .i64 a0_0, .int .i64 a0_1, .slice A0_2 l0_2.length c0_2] 24 (0, 0)) (ak_ BK171.out) hb); have n2_ := As_ (blk_below (g := gb172) (o := .cells #[.int .i64 0, .int .i64 0, .slice none 0 0] 24 (0, 0)) (ak_ BK172.out) hb); have n3_ := As_ (below_step (zb2_ HB.out GE171.out GE172.out) hb); have n4_ := As_ (hbox); have n5_ := As_ ((sb_ hg (zb2_ HB.out GE171.out GE172.out) : w.heap.size ≤ gb178)); have n6_ := As_ ((sb_ hg (zb2_ HB.out GE171.out GE172.out) : w.heap.size ≤ gb178)); have n7_ := As_ ((nl_ hg BK171.out : gb171 ≠ gb178)); have n8_ := As_ ((ng_ hg BK171.out : gb178 ≠ gb171)); have n9_ := As_ ((nl_ hg BK172.out : gb172 ≠ gb178)); have n10_ := As_ ((ng_ hg BK172.out : gb178 ≠ gb172)); clear HO177 BK171 BK172 HB; have HO177 := n0_; have BK171 := n1_; have BK172 := n2_; have HB := n3_; have BK178 := n4_; have GW178 := n5_; have GE178 := n6_; have NB171_178 := n7_; have NB178_171 := n8_; have NB172_178 := n9_; have NB178_172 := n10_; clear n0_ n1_ n2_ n3_ n4_ n5_ n6_ n7_ n8_ n9_ n10_ hb hbox hg; have hnb11 := NB178_171.out; have hnc11 := NB171_178.out; have hnb12 := NB178_172.out; have hnc12 := NB172_178.out; obtain ⟨hcz13_0, hcz13_1, hcz13_2, hfz13_0, hfz13_1, hfz13_2⟩ := blk_all3 BK178.out; obtain ⟨Ao14, co14, eo14⟩ := Kd.R_slice HO177.out; subst eo14))
  (try simp only [Act.put, List.setIfInBounds_toArray, List.set_cons_zero, List.set_cons_succ])
  go_cut [18] (fun v18 wc => ∃ (kq : Nat) (x18_3 : Bool), v18 = .bool x18_3 ∧ Aside0 (impl_NewInit.j0 kq a1 x18_3 a0_0 a0_1 l0_2 t173 t174 t175 = some (r1, r2, r3, r4)) ∧ Aside0 (kq ≤ k) ∧ Aside0 (Kd.R k48 48 wc w.heap.size (fun _ => True) (.slice Ao14 t175.length co14) t175) ∧ Aside0 (wc.heap[gb171]? = some (.cells #[.int .i64 a0_0, .int .i64 a0_1, (.slice A0_2 l0_2.length c0_2)] 24 (0, 0))) ∧ Aside0 (wc.heap[gb172]? = some (.cells #[.int .i64 0, .int .i64 0, (.slice none 0 0)] 24 (0, 0))) ∧ Aside0 (wc.heap[gb178]? = some (.cells #[.int .i64 t173, .int .i64 t174, (.slice Ao14 t175.length co14)] 24 (0, 0))) ∧ Aside0 (Below w.heap.size w wc))
  case first =>
    have H := HC4.out
    clear HC4
    replace H := Option.bind_eq_some_iff.mp H
    obtain ⟨t179, A150, H⟩ := H
    replace H : (if t179 = true then ((impl_FlowOk.f k a0_0 a0_1 l0_2).bind fun t180 => (impl_NewInit.j0 k a1 (!t180) a0_0 a0_1 l0_2 t173 t174 t175)) else (impl_NewInit.j0 k a1 true a0_0 a0_1 l0_2 t173 t174 t175)) = some (r1, r2, r3, r4) := H
    have A15 := Aside0.mk A150
    clear A150
    by_cases c16 : t179 = true
    · subst c16
      have H1 : ((impl_FlowOk.f k a0_0 a0_1 l0_2).bind fun t180 => (impl_NewInit.j0 k a1 (!t180) a0_0 a0_1 l0_2 t173 t174 t175)) = some (r1, r2, r3, r4) := by rw [if_pos rfl] at H; exact H
      clear H
      have H := H1
      clear H1
      replace H := Option.bind_eq_some_iff.mp H
      obtain ⟨t180, A170, H⟩ := H
      replace H : (impl_NewInit.j0 k a1 (!t180) a0_0 a0_1 l0_2 t173 t174 t175) = some (r1, r2, r3, r4) := H
      have A17 := Aside0.mk A170
      clear A170
      have H' := Aside0.mk H
      clear H
      go_wp2_with (first | ((with_reducible refine gate_callee (f := 39) rfl ?_); refine goesL_ (some 12) rfl rfl Try.func39 (by kernel_rfl) rfl #[.int .i64 a1] rfl tm_ ?_; (with_reducible refine (impl_isWindow.calls a1 true _ A15.out).mono ?_); rintro e w' ⟨rfl, ⟨nd, rfl⟩⟩; refine ⟨_, rfl, ?_⟩; have hnb18 := NB171_172.out; have hnc18 := NB172_171.out; have hnb19 := NB171_178.out; have hnc19 := NB178_171.out; obtain ⟨hcz20_0, hcz20_1, hcz20_2, hfz20_0, hfz20_1, hfz20_2⟩ := blk_all3 BK171.out) | (go_at_call 21; (with_reducible refine (impl_FlowOk.calls k a0_0 a0_1 _ _ l0_2 t180 _ ?side1 ?side2 A17.out).mono ?_); (case side1 => exact Kd.C_below HR0_2.out (zb3_ HB.out GE171.out GE172.out GE178.out)); (case side2 => exact HC0_2.out); rintro e w21 ⟨rfl, hb⟩; replace HO177 := As_ (Kd.R_below (rf3_ HO177.out BK178.out) hb); replace BK171 := As_ (blk_below (g := gb171) (o := .cells #[.int .i64 a0_0, .int .i64 a0_1, .slice A0_2 l0_2.length c0_2] 24 (0, 0)) (af_ NB171_178.out BK171.out) hb); replace BK172 := As_ (blk_below (g := gb172) (o := .cells #[.int .i64 0, .int .i64 0, .slice none 0 0] 24 (0, 0)) (af_ NB172_178.out BK172.out) hb); replace BK178 := As_ (blk_below (g := gb178) (o := .cells #[.int .i64 t173, .int .i64 t174, .slice Ao14 t175.length co14] 24 (0, 0)) (ap_ BK178.out) hb); replace HB := As_ (below_step (zb3_ HB.out GE171.out GE172.out GE178.out) hb); (try clear hb); (try clear hb2); (try clear hk); (try clear hi)))
      go_meet
      case rel => exact ⟨_, (!t180), (by first | rfl | (simp; done) | (simp [*]; done)), H', ⟨by first | omega | exact Nat.le_refl _⟩, ⟨rk_ HO177.out⟩, ⟨ak_ BK171.out⟩, ⟨ak_ BK172.out⟩, ⟨ak_ BK178.out⟩, ⟨zb3_ HB.out GE171.out GE172.out GE178.out⟩⟩
    · replace c16 := Bool.eq_false_iff.mpr c16
      subst c16
      have H1 : (impl_NewInit.j0 k a1 true a0_0 a0_1 l0_2 t173 t174 t175) = some (r1, r2, r3, r4) := by rw [if_neg (show ¬ (false = true) by decide)] at H; exact H
      clear H
      have H := H1
      clear H1
      have H' := Aside0.mk H
      clear H
      go_wp2_with (first | ((with_reducible refine gate_callee (f := 39) rfl ?_); refine goesL_ (some 12) rfl rfl Try.func39 (by kernel_rfl) rfl #[.int .i64 a1] rfl tm_ ?_; (with_reducible refine (impl_isWindow.calls a1 false _ A15.out).mono ?_); rintro e w' ⟨rfl, ⟨nd, rfl⟩⟩; refine ⟨_, rfl, ?_⟩))
      go_meet
      case rel => exact ⟨_, (true), (by first | rfl | (simp; done) | (simp [*]; done)), H', ⟨by first | omega | exact Nat.le_refl _⟩, ⟨rt3_ HO177.out BK178.out⟩, ⟨af_ NB171_178.out BK171.out⟩, ⟨af_ NB172_178.out BK172.out⟩, ⟨ap_ BK178.out⟩, ⟨zb3_ HB.out GE171.out GE172.out GE178.out⟩⟩
  case rest =>
    clear HC4
    try clear c1
    try clear c2
    try clear p2
    try clear c3
    try clear c4
    try clear c7
    try clear c11
    try clear c12
    try clear c16
    try clear c18
    try clear c19
    try clear hcz13_0
    try clear hcz13_1
    try clear hcz13_2
    try clear hcz20_0
    try clear hcz20_1
    try clear hcz20_2
    try clear hcz8_0
    try clear hcz8_1
    try clear hcz8_2
    try clear hfz13_0
    try clear hfz13_1
    try clear hfz13_2
    try clear hfz20_0
    try clear hfz20_1
    try clear hfz20_2
    try clear hfz8_0
    try clear hfz8_1
    try clear hfz8_2
    obtain ⟨kq, x18_3, rfl, HA, HJ3, HO_179002, BK171, BK172, BK178, HB⟩ := hcut
    cases kq with
    | zero => exact absurd HA.out (by simp [impl_NewInit.j0])
    | succ kj3 =>
      have H := HA.out
      clear HA
      simp only [impl_NewInit.j0] at H
      by_cases c22 : x18_3 = true
      · subst c22
        have H1 : (some (t173, t174, t175, false)) = some (r1, r2, r3, r4) := by rw [if_pos rfl] at H; exact H
        clear H
        have H := H1
        clear H1
        simp only [Option.some.injEq, Prod.mk.injEq] at H
        obtain ⟨rfl, rfl, rfl, rfl⟩ := H
        have hnb23 := NB178_171.out
        have hnc23 := NB171_178.out
        have hnb24 := NB178_172.out
        have hnc24 := NB172_178.out
        obtain ⟨hcz25_0, hcz25_1, hcz25_2, hfz25_0, hfz25_1, hfz25_2⟩ := blk_all3 BK178.out
        have hnb26 := NB172_171.out
        have hnc26 := NB171_172.out
        obtain ⟨hcz27_0, hcz27_1, hcz27_2, hfz27_0, hfz27_1, hfz27_2⟩ := blk_all3 BK172.out
        go_wp2
        refine bodyPost_ret (results_ct rfl _ _ gb172 24 #[.int .i64 t173, .int .i64 t174, .slice Ao14 t175.length co14] (0, 0) _ rfl (ap_ BK172.out) Try.underlying24 rfl (by kernel_rfl)) rfl ?_
        exact ⟨_, by first | rfl | (simp [errW_none, errW_some] <;> rfl) | (simp [*, errW_none, errW_some] <;> rfl), rt3_ HO_179002.out BK172.out, zb3_ HB.out GE171.out GE172.out GE178.out⟩
      · replace c22 := Bool.eq_false_iff.mpr c22
        subst c22
        have H1 : (impl_NewInit.l0 kj3 (wrap64 (a1 - a0_1)) (t175.length : Int) 0 a0_0 a0_1 l0_2 t173 a1 t175) = some (r1, r2, r3, r4) := by rw [if_neg (show ¬ (false = true) by decide)] at H; exact H
        clear H
        have H := H1
        clear H1
        have H' := Aside0.mk H
        clear H
        have hnb28 := NB171_172.out
        have hnc28 := NB172_171.out
        have hnb29 := NB171_178.out
        have hnc29 := NB178_171.out
        obtain ⟨hcz30_0, hcz30_1, hcz30_2, hfz30_0, hfz30_1, hfz30_2⟩ := blk_all3 BK171.out
        have hnb31 := NB178_172.out
        have hnc31 := NB172_178.out
        obtain ⟨hcz32_0, hcz32_1, hcz32_2, hfz32_0, hfz32_1, hfz32_2⟩ := blk_all3 BK178.out
        go_wp2
        go_loopg [29] kj3 (fun kq v29 w' => ∃ (x29_2 : Int) (x173000_2 : Int) (x173001_2 : Int) (x179002_2 : List (S48)) (u179002 : Value), v29 = .int .i64 x29_2 ∧ Aside0 (impl_NewInit.l0 kq (wrap64 (a1 - a0_1)) (t175.length : Int) x29_2 a0_0 a0_1 l0_2 t173 a1 x179002_2 = some (r1, r2, r3, r4)) ∧ Aside0 (kq ≤ kj3) ∧ Aside0 (Kd.R k48 48 w' w.heap.size (fun _ => True) u179002 x179002_2) ∧ Aside0 (w'.heap[gb171]? = some (.cells #[.int .i64 a0_0, .int .i64 a0_1, (.slice A0_2 l0_2.length c0_2)] 24 (0, 0))) ∧ Aside0 (w'.heap[gb172]? = some (.cells #[.int .i64 x173000_2, .int .i64 x173001_2, (.slice none 0 0)] 24 (0, 0))) ∧ Aside0 (w'.heap[gb178]? = some (.cells #[.int .i64 t173, .int .i64 a1, u179002] 24 (0, 0))) ∧ Aside0 (Below w.heap.size w w'))
        case atStart => exact ⟨(0), (0), (0), (t175), (.slice Ao14 t175.length co14), (by first | rfl | (simp; done) | (simp [*]; done)), H', ⟨Nat.le_refl _⟩, ⟨rt1_ HO_179002.out BK178.out⟩, ⟨af_ NB171_178.out BK171.out⟩, ⟨af_ NB172_178.out BK172.out⟩, ⟨ap_ BK178.out⟩, ⟨zb3_ HB.out GE171.out GE172.out GE178.out⟩⟩
        case round =>
          clear H'
          try clear c1
          try clear c2
          try clear p2
          try clear c3
          try clear c4
          try clear p6
          try clear c7
          try clear c11
          try clear c12
          try clear c16
          try clear c18
          try clear c19
          try clear c22
          try clear c23
          try clear c24
          try clear c25
          try clear c26
          try clear c28
          try clear c29
          try clear c31
          try clear hcz13_0
          try clear hcz13_1
          try clear hcz13_2
          try clear hcz20_0
          try clear hcz20_1
          try clear hcz20_2
          try clear hcz25_0
          try clear hcz25_1
          try clear hcz25_2
          try clear hcz27_0
          try clear hcz27_1
          try clear hcz27_2
          try clear hcz30_0
          try clear hcz30_1
          try clear hcz30_2
          try clear hcz32_0
          try clear hcz32_1
          try clear hcz32_2
          try clear hcz8_0
          try clear hcz8_1
          try clear hcz8_2
          try clear hfz13_0
          try clear hfz13_1
          try clear hfz13_2
          try clear hfz20_0
          try clear hfz20_1
          try clear hfz20_2
          try clear hfz25_0
          try clear hfz25_1
          try clear hfz25_2
          try clear hfz27_0
          try clear hfz27_1
          try clear hfz27_2
          try clear hfz30_0
          try clear hfz30_1
          try clear hfz30_2
          try clear hfz32_0
          try clear hfz32_1
          try clear hfz32_2
          try clear hfz8_0
          try clear hfz8_1
          try clear hfz8_2
          try clear p2
          obtain ⟨x29_2, x173000_2, x173001_2, x179002_2, u179002, rfl, HA, HK2, HO_179002, BK171, BK172, BK178, HB⟩ := hrel
          cases gk with
          | zero => exact absurd HA.out (by simp [impl_NewInit.l0])
          | succ k2 =>
            have H := HA.out
            clear HA
            simp only [impl_NewInit.l0] at H
            by_cases c33 : x29_2 < (t175.length : Int)
            · rw [if_pos c33] at H
              have c33b0 : decide (x29_2 < (t175.length : Int)) = true := decide_eq_true c33
              clear c33
              by_cases c34 : 0 ≤ x29_2
              · rw [if_pos c34] at H
                have c34b0 : decide (0 ≤ x29_2) = true := decide_eq_true c34
                clear c34
                by_cases c35 : x29_2 < (x179002_2.length : Int)
                · rw [if_pos c35] at H
                  have c35b0 : decide (x29_2 < (x179002_2.length : Int)) = true := decide_eq_true c35
                  clear c35
                  obtain ⟨y182, hy182⟩ : ∃ y_ : List (S48), y_ = (x179002_2.set (x29_2 : Int).toNat (⟨(rd_T48 x179002_2 x29_2).f0, wrap64 (((rd_T48 x179002_2 x29_2).f1) + (wrap64 (a1 - a0_1)))⟩ : S48)) := ⟨_, rfl⟩
                  replace H : ((impl_inRange.f ((rd_T48 y182 x29_2).f1) (-2147483647) 2147483647).bind fun t184 => (if t184 = true then (impl_NewInit.l0 k2 (wrap64 (a1 - a0_1)) (t175.length : Int) (wrap64 (x29_2 + 1)) a0_0 a0_1 l0_2 t173 a1 y182) else ((impl_copyFlow.f a0_0 a0_1 l0_2).bind fun bt185 => (some (bt185.1, bt185.2.1, bt185.2.2, false))))) = some (r1, r2, r3, r4) := by first | (rw [hy182]; with_reducible exact H) | (have H2_ := (Option.bind_some _ _).symm.trans H; rw [hy182]; with_reducible exact H2_) | (have H2_ := (Option.bind_some _ _).symm.trans H; with_reducible exact H2_) | with_reducible exact H | (rw [hy182]; exact H) | exact H
                  have Ny182 := Aside0.mk hy182
                  clear hy182
                  replace H := Option.bind_eq_some_iff.mp H
                  obtain ⟨t184, A370, H⟩ := H
                  replace H : (if t184 = true then (impl_NewInit.l0 k2 (wrap64 (a1 - a0_1)) (t175.length : Int) (wrap64 (x29_2 + 1)) a0_0 a0_1 l0_2 t173 a1 y182) else ((impl_copyFlow.f a0_0 a0_1 l0_2).bind fun bt185 => (some (bt185.1, bt185.2.1, bt185.2.2, false)))) = some (r1, r2, r3, r4) := H
                  have A37 := Aside0.mk A370
                  clear A370
                  by_cases c38 : t184 = true
                  · subst c38
                    have H1 : (impl_NewInit.l0 k2 (wrap64 (a1 - a0_1)) (t175.length : Int) (wrap64 (x29_2 + 1)) a0_0 a0_1 l0_2 t173 a1 y182) = some (r1, r2, r3, r4) := by rw [if_pos rfl] at H; exact H
                    clear H
                    have H := H1
                    clear H1
                    have H' := Aside0.mk H
                    clear H
                    have hnb39 := NB178_171.out
                    have hnc39 := NB171_178.out
                    have hnb40 := NB178_172.out
                    have hnc40 := NB172_178.out
                    obtain ⟨hcz41_0, hcz41_1, hcz41_2, hfz41_0, hfz41_1, hfz41_2⟩ := blk_all3 BK178.out
                    obtain ⟨Ao42, co42, eo42⟩ := Kd.R_slice HO_179002.out
                    subst eo42
                    have p181 : 0 ≤ (x29_2 : Int) := of_decide_eq_true sm_
                    have q181 : x29_2 < (x179002_2.length : Int) := of_decide_eq_true sm_
                    obtain ⟨ad181, e181, hx181_0, hx181_1⟩ := at_T48 (Kd.R_reads' HO_179002.out).2.2 x29_2 p181 q181
                    cases e181
                    replace p181 := eq_true p181
                    replace q181 := eq_true q181
                    have p36 : 0 ≤ (x29_2 : Int) := of_decide_eq_true sm_
                    have q36 : (x29_2 : Int) < ((x179002_2.length : Int) : Int) := of_decide_eq_true sm_
                    obtain ⟨go36, co36, eo36, gb36, gl36, cl36, HG36⟩ := Kd.R_form HO_179002.out (by omega)
                    (first | cases eo36 | (injection eo36 with ea_ en_ ec_; (first | subst ea_ | (injection ea_ with ea_; subst ea_)); subst ec_; clear en_))
                    have GB36 := Aside0.mk gb36
                    have GG36 := Aside0.mk HG36
                    clear gb36 gl36 HG36
                    (first | simp only [add_plain] at hx181_0 | skip)
                    (first | simp only [add_plain] at hx181_1 | skip)
                    obtain ⟨ce36, hcl36, hM36, hcc36, hfr36⟩ := Kd.R_elem HO_179002.out z48 (x29_2 : Int) p36 q36
                    obtain rfl := k48_openM hM36
                    have hx36_0 : wr.cell? ⟨go36, (x29_2 : Int).toNat * 2, none⟩ = some (.int .i64 ((rd_T48 x179002_2 x29_2).f0)) := hcc36 0 _ rfl
                    have hx36_1 : wr.cell? ⟨go36, (x29_2 : Int).toNat * 2 + 1, none⟩ = some (.int .i64 ((rd_T48 x179002_2 x29_2).f1)) := hcc36 1 _ rfl
                    have hf36_0 : wr.frozen? ⟨go36, (x29_2 : Int).toNat * 2, none⟩ = false := hfr36 0
                    have hf36_1 : wr.frozen? ⟨go36, (x29_2 : Int).toNat * 2 + 1, none⟩ = false := hfr36 1
                    clear hcl36 hcc36 hfr36 hM36
                    replace p36 := eq_true p36
                    replace q36 := eq_true q36
                    have HX43 := As_ (show Kd.R k48 48 wr w.heap.size (fun _ => True) (.slice (some ⟨go36, 0, none⟩) x179002_2.length co42) x179002_2 from (rk_ HO_179002.out))
                    obtain ⟨ce43, hcl43, hM43, hcc43, hfr43⟩ := Kd.R_elem HX43.out z48 (x29_2 : Int) (of_decide_eq_true sm_) (by have h_ : (x29_2 : Int) < ((x179002_2.length : Int) : Int) := of_decide_eq_true sm_; first | exact h_ | (have e_ := (Kd.R_reads' HO_179002.out).1; omega) | simpa using h_)
                    obtain rfl := k48_openM hM43
                    have HP43 := Kd.R_seg HX43.out (x29_2 : Int) (of_decide_eq_true sm_) (by have h_ : (x29_2 : Int) < ((x179002_2.length : Int) : Int) := of_decide_eq_true sm_; first | exact h_ | (have e_ := (Kd.R_reads' HO_179002.out).1; omega) | simpa using h_) (seg := [.int .i64 (wrap64 (((rd_T48 x179002_2 x29_2).f1) + (wrap64 (a1 - a0_1))))]) (j := 1) hcl43 hcc43 (show 2 ≤ 2 from by decide) (x' := (⟨(rd_T48 x179002_2 x29_2).f0, wrap64 (((rd_T48 x179002_2 x29_2).f1) + (wrap64 (a1 - a0_1)))⟩ : S48)) (k48_mkM _ _ _ (⟨(rd_T48 x179002_2 x29_2).f0, wrap64 (((rd_T48 x179002_2 x29_2).f1) + (wrap64 (a1 - a0_1)))⟩ : S48) ) (fun _ hk => hk)
                    have hx43_1 := hcc43 1 _ rfl
                    (try simp only [show (k48).sz = 2 from rfl, Nat.mul_one, Nat.add_zero] at hx43_1)
                    have hf43_1 := hfr43 1
                    (try simp only [show (k48).sz = 2 from rfl, Nat.mul_one, Nat.add_zero] at hf43_1)
                    clear hcl43 hcc43 hfr43 hM43
                    go_wp2_with (first | ((with_reducible refine gate_store (t := 3) (p := 41) rfl ?_); refine store_event (t := 3) (p := 41) (v := ?vo_w44) (w1 := (wr.setCell ⟨go36, (x29_2 : Int).toNat * 2 + 1, none⟩ (.int .i64 (wrap64 (((rd_T48 x179002_2 x29_2).f1) + (wrap64 (a1 - a0_1))))))) ?hg ?ho ?hn ?hr ?_; (case ho => rfl); (case hg => rfl); (case hn => rfl); (case hr => first | (go_simp; done) | (go_simp; rfl)); intro w44 hw; have hg : wr.grownBy w44 (some go36) := (by rw [hw]; exact HP43.2); have hp_ : Kd.R k48 48 w44 w.heap.size (fun _ => True) (.slice (some ⟨go36, 0, none⟩) x179002_2.length co42) y182 := (by rw [hw, Ny182.out]; exact HP43.1); clear HP43; have n0_ := As_ (hp_); have n1_ := As_ (blk_grown (g := gb171) (o := .cells #[.int .i64 a0_0, .int .i64 a0_1, .slice A0_2 l0_2.length c0_2] 24 (0, 0)) (ak_ BK171.out) hg (Kd.R_ne HO_179002.out BK171.out (by decide))); have n2_ := As_ (blk_grown (g := gb172) (o := .cells #[.int .i64 x173000_2, .int .i64 x173001_2, .slice none 0 0] 24 (0, 0)) (ak_ BK172.out) hg (Kd.R_ne HO_179002.out BK172.out (by decide))); have n3_ := As_ (blk_grown (g := gb178) (o := .cells #[.int .i64 t173, .int .i64 a1, .slice (some ⟨go36, 0, none⟩) x179002_2.length co42] 24 (0, 0)) (ak_ BK178.out) hg (Kd.R_ne HO_179002.out BK178.out (by decide))); have n4_ := As_ ((by rw [hw]; exact below_set (HB.out) GB36.out : Below w.heap.size w w44)); clear HO_179002 BK171 BK172 BK178 HB; have HO_179002 := n0_; have BK171 := n1_; have BK172 := n2_; have BK178 := n3_; have HB := n4_; clear n0_ n1_ n2_ n3_ n4_ hg hw hp_; obtain ⟨hcz45_0, hcz45_1, hcz45_2, hfz45_0, hfz45_1, hfz45_2⟩ := blk_all3 BK178.out; have p183 : 0 ≤ (x29_2 : Int) := of_decide_eq_true sm_; have q183 : x29_2 < (y182.length : Int) := (by have h_ : (x29_2 : Int) < ((x179002_2.length : Int) : Int) := of_decide_eq_true sm_; first | (have e_ := (Kd.R_reads' HO_179002.out).1; omega) | simpa only [Ny182.out, List.length_set] using h_); have ql183 : ((x29_2 : Int) < ((x179002_2.length : Int) : Int)) = True := eq_true (of_decide_eq_true sm_); obtain ⟨ad183, e183, hx183_0, hx183_1⟩ := at_T48 (Kd.R_reads' HO_179002.out).2.2 x29_2 p183 q183; obtain rfl : (⟨go36, 0, none⟩ : Addr) = ad183 := (by injection e183); (first | simp only [add_plain] at hx183_0 | simp only [add_at] at hx183_0 | simp only [Addr.add, Nat.zero_add] at hx183_0 | skip); (first | simp only [add_plain] at hx183_1 | simp only [add_at] at hx183_1 | simp only [Addr.add, Nat.zero_add] at hx183_1 | skip); replace p183 := eq_true p183; replace q183 := eq_true q183) | ((with_reducible refine gate_callee (f := 45) rfl ?_); refine goesL_ (some 48) rfl rfl Try.func45 (by kernel_rfl) rfl #[.int .i64 ((rd_T48 y182 x29_2).f1), .int .i64 (-2147483647), .int .i64 2147483647] rfl tm_ ?_; (with_reducible refine (impl_inRange.calls ((rd_T48 y182 x29_2).f1) (-2147483647) 2147483647 true _ A37.out).mono ?_); rintro e w' ⟨rfl, ⟨nd, rfl⟩⟩; refine ⟨_, rfl, ?_⟩))
                    go_roundg k2
                    case measure => have := HJ3.out; have := HK2.out; omega
                    case rel => exact ⟨(wrap64 (x29_2 + 1)), (x173000_2), (x173001_2), (y182), (.slice (some ⟨go36, 0, none⟩) x179002_2.length co42), (by first | rfl | (simp; done) | (simp [*]; done)), H', ⟨by have := HJ3.out; have := HK2.out; omega⟩, ⟨rk_ HO_179002.out⟩, ⟨ak_ BK171.out⟩, ⟨ak_ BK172.out⟩, ⟨ak_ BK178.out⟩, ⟨zb3_ HB.out GE171.out GE172.out GE178.out⟩⟩
                  · replace c38 := Bool.eq_false_iff.mpr c38
                    subst c38
                    have H1 : ((impl_copyFlow.f a0_0 a0_1 l0_2).bind fun bt185 => (some (bt185.1, bt185.2.1, bt185.2.2, false))) = some (r1, r2, r3, r4) := by rw [if_neg (show ¬ (false = true) by decide)] at H; exact H
                    clear H
                    have H := H1
                    clear H1
                    replace H := Option.bind_eq_some_iff.mp H
                    obtain ⟨⟨t185, t186, t187⟩, A460, H⟩ := H
                    replace H : (some (t185, t186, t187, false)) = some (r1, r2, r3, r4) := H
                    have A46 := Aside0.mk A460
                    clear A460
                    simp only [Option.some.injEq, Prod.mk.injEq] at H
                    obtain ⟨rfl, rfl, rfl, rfl⟩ := H
                    have hnb47 := NB178_171.out
                    have hnc47 := NB171_178.out
                    have hnb48 := NB178_172.out
                    have hnc48 := NB172_178.out
                    obtain ⟨hcz49_0, hcz49_1, hcz49_2, hfz49_0, hfz49_1, hfz49_2⟩ := blk_all3 BK178.out
                    obtain ⟨Ao50, co50, eo50⟩ := Kd.R_slice HO_179002.out
                    subst eo50
                    have p181 : 0 ≤ (x29_2 : Int) := of_decide_eq_true sm_
                    have q181 : x29_2 < (x179002_2.length : Int) := of_decide_eq_true sm_
                    obtain ⟨ad181, e181, hx181_0, hx181_1⟩ := at_T48 (Kd.R_reads' HO_179002.out).2.2 x29_2 p181 q181
                    cases e181
                    replace p181 := eq_true p181
                    replace q181 := eq_true q181
                    have p36 : 0 ≤ (x29_2 : Int) := of_decide_eq_true sm_
                    have q36 : (x29_2 : Int) < ((x179002_2.length : Int) : Int) := of_decide_eq_true sm_
                    obtain ⟨go36, co36, eo36, gb36, gl36, cl36, HG36⟩ := Kd.R_form HO_179002.out (by omega)
                    (first | cases eo36 | (injection eo36 with ea_ en_ ec_; (first | subst ea_ | (injection ea_ with ea_; subst ea_)); subst ec_; clear en_))
                    have GB36 := Aside0.mk gb36
                    have GG36 := Aside0.mk HG36
                    clear gb36 gl36 HG36
                    (first | simp only [add_plain] at hx181_0 | skip)
                    (first | simp only [add_plain] at hx181_1 | skip)
                    obtain ⟨ce36, hcl36, hM36, hcc36, hfr36⟩ := Kd.R_elem HO_179002.out z48 (x29_2 : Int) p36 q36
                    obtain rfl := k48_openM hM36
                    have hx36_0 : wr.cell? ⟨go36, (x29_2 : Int).toNat * 2, none⟩ = some (.int .i64 ((rd_T48 x179002_2 x29_2).f0)) := hcc36 0 _ rfl
                    have hx36_1 : wr.cell? ⟨go36, (x29_2 : Int).toNat * 2 + 1, none⟩ = some (.int .i64 ((rd_T48 x179002_2 x29_2).f1)) := hcc36 1 _ rfl
                    have hf36_0 : wr.frozen? ⟨go36, (x29_2 : Int).toNat * 2, none⟩ = false := hfr36 0
                    have hf36_1 : wr.frozen? ⟨go36, (x29_2 : Int).toNat * 2 + 1, none⟩ = false := hfr36 1
                    clear hcl36 hcc36 hfr36 hM36
                    replace p36 := eq_true p36
                    replace q36 := eq_true q36
                    have HX51 := As_ (show Kd.R k48 48 wr w.heap.size (fun _ => True) (.slice (some ⟨go36, 0, none⟩) x179002_2.length co50) x179002_2 from (rk_ HO_179002.out))
                    obtain ⟨ce51, hcl51, hM51, hcc51, hfr51⟩ := Kd.R_elem HX51.out z48 (x29_2 : Int) (of_decide_eq_true sm_) (by have h_ : (x29_2 : Int) < ((x179002_2.length : Int) : Int) := of_decide_eq_true sm_; first | exact h_ | (have e_ := (Kd.R_reads' HO_179002.out).1; omega) | simpa using h_)
                    obtain rfl := k48_openM hM51
                    have HP51 := Kd.R_seg HX51.out (x29_2 : Int) (of_decide_eq_true sm_) (by have h_ : (x29_2 : Int) < ((x179002_2.length : Int) : Int) := of_decide_eq_true sm_; first | exact h_ | (have e_ := (Kd.R_reads' HO_179002.out).1; omega) | simpa using h_) (seg := [.int .i64 (wrap64 (((rd_T48 x179002_2 x29_2).f1) + (wrap64 (a1 - a0_1))))]) (j := 1) hcl51 hcc51 (show 2 ≤ 2 from by decide) (x' := (⟨(rd_T48 x179002_2 x29_2).f0, wrap64 (((rd_T48 x179002_2 x29_2).f1) + (wrap64 (a1 - a0_1)))⟩ : S48)) (k48_mkM _ _ _ (⟨(rd_T48 x179002_2 x29_2).f0, wrap64 (((rd_T48 x179002_2 x29_2).f1) + (wrap64 (a1 - a0_1)))⟩ : S48) ) (fun _ hk => hk)
                    have hx51_1 := hcc51 1 _ rfl
                    (try simp only [show (k48).sz = 2 from rfl, Nat.mul_one, Nat.add_zero] at hx51_1)
                    have hf51_1 := hfr51 1
                    (try simp only [show (k48).sz = 2 from rfl, Nat.mul_one, Nat.add_zero] at hf51_1)
                    clear hcl51 hcc51 hfr51 hM51
                    go_wp2_with (first | ((with_reducible refine gate_store (t := 3) (p := 41) rfl ?_); refine store_event (t := 3) (p := 41) (v := ?vo_w52) (w1 := (wr.setCell ⟨go36, (x29_2 : Int).toNat * 2 + 1, none⟩ (.int .i64 (wrap64 (((rd_T48 x179002_2 x29_2).f1) + (wrap64 (a1 - a0_1))))))) ?hg ?ho ?hn ?hr ?_; (case ho => rfl); (case hg => rfl); (case hn => rfl); (case hr => first | (go_simp; done) | (go_simp; rfl)); intro w52 hw; have hg : wr.grownBy w52 (some go36) := (by rw [hw]; exact HP51.2); have hp_ : Kd.R k48 48 w52 w.heap.size (fun _ => True) (.slice (some ⟨go36, 0, none⟩) x179002_2.length co50) y182 := (by rw [hw, Ny182.out]; exact HP51.1); clear HP51; have n0_ := As_ (hp_); have n1_ := As_ (blk_grown (g := gb171) (o := .cells #[.int .i64 a0_0, .int .i64 a0_1, .slice A0_2 l0_2.length c0_2] 24 (0, 0)) (ak_ BK171.out) hg (Kd.R_ne HO_179002.out BK171.out (by decide))); have n2_ := As_ (blk_grown (g := gb172) (o := .cells #[.int .i64 x173000_2, .int .i64 x173001_2, .slice none 0 0] 24 (0, 0)) (ak_ BK172.out) hg (Kd.R_ne HO_179002.out BK172.out (by decide))); have n3_ := As_ (blk_grown (g := gb178) (o := .cells #[.int .i64 t173, .int .i64 a1, .slice (some ⟨go36, 0, none⟩) x179002_2.length co50] 24 (0, 0)) (ak_ BK178.out) hg (Kd.R_ne HO_179002.out BK178.out (by decide))); have n4_ := As_ ((by rw [hw]; exact below_set (HB.out) GB36.out : Below w.heap.size w w52)); clear HO_179002 BK171 BK172 BK178 HB; have HO_179002 := n0_; have BK171 := n1_; have BK172 := n2_; have BK178 := n3_; have HB := n4_; clear n0_ n1_ n2_ n3_ n4_ hg hw hp_; obtain ⟨hcz53_0, hcz53_1, hcz53_2, hfz53_0, hfz53_1, hfz53_2⟩ := blk_all3 BK178.out; have p183 : 0 ≤ (x29_2 : Int) := of_decide_eq_true sm_; have q183 : x29_2 < (y182.length : Int) := (by have h_ : (x29_2 : Int) < ((x179002_2.length : Int) : Int) := of_decide_eq_true sm_; first | (have e_ := (Kd.R_reads' HO_179002.out).1; omega) | simpa only [Ny182.out, List.length_set] using h_); have ql183 : ((x29_2 : Int) < ((x179002_2.length : Int) : Int)) = True := eq_true (of_decide_eq_true sm_); obtain ⟨ad183, e183, hx183_0, hx183_1⟩ := at_T48 (Kd.R_reads' HO_179002.out).2.2 x29_2 p183 q183; obtain rfl : (⟨go36, 0, none⟩ : Addr) = ad183 := (by injection e183); (first | simp only [add_plain] at hx183_0 | simp only [add_at] at hx183_0 | simp only [Addr.add, Nat.zero_add] at hx183_0 | skip); (first | simp only [add_plain] at hx183_1 | simp only [add_at] at hx183_1 | simp only [Addr.add, Nat.zero_add] at hx183_1 | skip); replace p183 := eq_true p183; replace q183 := eq_true q183) | ((with_reducible refine gate_callee (f := 45) rfl ?_); refine goesL_ (some 48) rfl rfl Try.func45 (by kernel_rfl) rfl #[.int .i64 ((rd_T48 y182 x29_2).f1), .int .i64 (-2147483647), .int .i64 2147483647] rfl tm_ ?_; (with_reducible refine (impl_inRange.calls ((rd_T48 y182 x29_2).f1) (-2147483647) 2147483647 false _ A37.out).mono ?_); rintro e w' ⟨rfl, ⟨nd, rfl⟩⟩; refine ⟨_, rfl, ?_⟩; (try (rw [drewN_self w52]; generalize hq_ : World.drewN w52 _ = w52; replace HO_179002 : Aside0 (Kd.R k48 48 w52 w.heap.size (fun _ => True) (.slice (some ⟨go36, 0, none⟩) x179002_2.length co50) y182) := ⟨by rw [← hq_]; exact (rk_ HO_179002.out)⟩; replace BK171 : Aside0 (w52.heap[gb171]? = some (.cells #[.int .i64 a0_0, .int .i64 a0_1, .slice A0_2 l0_2.length c0_2] 24 (0, 0))) := ⟨by rw [← hq_]; exact (ak_ BK171.out)⟩; replace BK172 : Aside0 (w52.heap[gb172]? = some (.cells #[.int .i64 x173000_2, .int .i64 x173001_2, .slice none 0 0] 24 (0, 0))) := ⟨by rw [← hq_]; exact (ak_ BK172.out)⟩; replace BK178 : Aside0 (w52.heap[gb178]? = some (.cells #[.int .i64 t173, .int .i64 a1, .slice (some ⟨go36, 0, none⟩) x179002_2.length co50] 24 (0, 0))) := ⟨by rw [← hq_]; exact (ak_ BK178.out)⟩; replace HB : Aside0 (Below w.heap.size w w52) := ⟨by rw [← hq_]; exact (zb3_ HB.out GE171.out GE172.out GE178.out)⟩; clear hq_)); have hnb54 := NB171_172.out; have hnc54 := NB172_171.out; obtain ⟨hcz55_0, hcz55_1, hcz55_2, hfz55_0, hfz55_1, hfz55_2⟩ := blk_all3 BK171.out) | ((with_reducible refine gate_callee (f := 49) rfl ?_); refine goesL_ (some 51) rfl rfl Try.func49 (by kernel_rfl) rfl #[.agg #[.int .i64 a0_0, .int .i64 a0_1, .slice A0_2 l0_2.length c0_2]] rfl tm_ ?_; (with_reducible refine (impl_copyFlow.calls a0_0 a0_1 _ _ l0_2 t185 t186 t187 _ ?side1 ?side2 A46.out).mono ?_); (case side1 => repeat (first | exact (Kd.C_below HR0_2.out HB.out) | (with_reducible first | apply cA_ | apply cN_ | apply cD_))); (case side2 => exact HC0_2.out); rintro e w56 ⟨v188, rfl, ho0, hb⟩; refine ⟨_, rfl, ?_⟩; have n0_ := As_ (Kd.R_elder' (rk_ HO_179002.out) (Kd.R_base ho0) hb); have HO189 := As_ (Kd.R_lower (Kd.R_new' ho0 (Kd.R_lt (rk_ HO_179002.out))) (below_size (zb3_ HB.out GE171.out GE172.out GE178.out))); replace BK171 := As_ (blk_below (g := gb171) (o := .cells #[.int .i64 a0_0, .int .i64 a0_1, .slice A0_2 l0_2.length c0_2] 24 (0, 0)) (ak_ BK171.out) hb); replace BK172 := As_ (blk_below (g := gb172) (o := .cells #[.int .i64 x173000_2, .int .i64 x173001_2, .slice none 0 0] 24 (0, 0)) (ak_ BK172.out) hb); replace BK178 := As_ (blk_below (g := gb178) (o := .cells #[.int .i64 t173, .int .i64 a1, .slice (some ⟨go36, 0, none⟩) x179002_2.length co50] 24 (0, 0)) (ak_ BK178.out) hb); replace HB := As_ (below_step (zb3_ HB.out GE171.out GE172.out GE178.out) hb); clear HO_179002; have HO_179002 := n0_; clear n0_; (try clear hb); (try clear hb2); (try clear hk); (try clear hi); (try clear ho0); obtain ⟨hcz57_0, hcz57_1, hcz57_2, hfz57_0, hfz57_1, hfz57_2⟩ := blk_all3 BK172.out; obtain ⟨Ao58, co58, eo58⟩ := Kd.R_slice HO189.out; subst eo58))
                    refine bodyPost_ret (results_ct rfl _ _ gb172 24 #[.int .i64 t185, .int .i64 t186, .slice Ao58 t187.length co58] (0, 0) _ rfl (ap_ BK172.out) Try.underlying24 rfl (by kernel_rfl)) rfl ?_
                    exact ⟨_, by first | rfl | (simp [errW_none, errW_some] <;> rfl) | (simp [*, errW_none, errW_some] <;> rfl), rt3_ HO189.out BK172.out, zb3_ HB.out GE171.out GE172.out GE178.out⟩
                · rw [if_neg c35] at H
                  exact absurd H (by simp)
              · rw [if_neg c34] at H
                exact absurd H (by simp)
            · rw [if_neg c33] at H
              have c33b0 : decide (x29_2 < (t175.length : Int)) = false := decide_eq_false c33
              clear c33
              simp only [Option.some.injEq, Prod.mk.injEq] at H
              obtain ⟨rfl, rfl, rfl, rfl⟩ := H
              have hnb59 := NB178_171.out
              have hnc59 := NB171_178.out
              have hnb60 := NB178_172.out
              have hnc60 := NB172_178.out
              obtain ⟨hcz61_0, hcz61_1, hcz61_2, hfz61_0, hfz61_1, hfz61_2⟩ := blk_all3 BK178.out
              have hnb62 := NB172_171.out
              have hnc62 := NB171_172.out
              obtain ⟨hcz63_0, hcz63_1, hcz63_2, hfz63_0, hfz63_1, hfz63_2⟩ := blk_all3 BK172.out
              obtain ⟨Ao64, co64, eo64⟩ := Kd.R_slice HO_179002.out
              subst eo64
              go_wp2
              refine bodyPost_ret (results_ct rfl _ _ gb172 24 #[.int .i64 t173, .int .i64 a1, .slice Ao64 x179002_2.length co64] (0, 0) _ rfl (ap_ BK172.out) Try.underlying24 rfl (by kernel_rfl)) rfl ?_
              exact ⟨_, by first | rfl | (simp [errW_none, errW_some] <;> rfl) | (simp [*, errW_none, errW_some] <;> rfl), rt3_ HO_179002.out BK172.out, zb3_ HB.out GE171.out GE172.out GE178.out⟩

/-! ### impl_Flow_lane: function 50 -/
def impl_Flow_lane.l0 : Nat → Int → Int → Int → Int → List (S48) → Option (Int × Bool)
  | 0, _, _, _, _, _ => none
  | k + 1, x1, x6, x1000, x1001, x1002 => if x6 < (x1002.length : Int) then (if 0 ≤ x6 then (if ((rd_T48 x1002 x6).f0) < x1 then (impl_Flow_lane.l0 k x1 (wrap64 (x6 + 1)) x1000 x1001 x1002) else (some (x6, (((rd_T48 x1002 x6).f0) == x1)))) else (none)) else (some (x6, false))
def impl_Flow_lane.f (k : Nat) (a0_0 : Int) (a0_1 : Int) (l0_2 : List (S48)) (a1 : Int) : Option (Int × Bool) := impl_Flow_lane.l0 k a1 0 a0_0 a0_1 l0_2
theorem impl_Flow_lane.mono_l : ∀ k, (∀ y0 y1 y2 y3 y4, LeO (impl_Flow_lane.l0 k y0 y1 y2 y3 y4) (impl_Flow_lane.l0 (k + 1) y0 y1 y2 y3 y4))
  | 0 => fun _ _ _ _ _ r h => by simp [impl_Flow_lane.l0] at h
  | k + 1 => by
    have ih0 := impl_Flow_lane.mono_l k
    · intro y0 y1 y2 y3 y4
      unfold impl_Flow_lane.l0
      repeat' first
      | (with_reducible exact ih0 _ _ _ _ _)
      | (with_reducible exact LeO.refl _)
      | (with_reducible exact LeO.none _)
      | (with_reducible refine LeO.ite ?_ ?_)
      | (with_reducible refine LeO.bind ?_ (fun _ => ?_))
      | exact ih0 _ _ _ _ _
      | exact LeO.none _
      | refine LeO.ite ?_ ?_
      | refine LeO.bind ?_ (fun _ => ?_)
theorem impl_Flow_lane.mono : ∀ a0 a1 a2 a3 k, LeO (impl_Flow_lane.f k a0 a1 a2 a3) (impl_Flow_lane.f (k + 1) a0 a1 a2 a3) := by
  intro a0 a1 a2 a3 k
  have ih0 := impl_Flow_lane.mono_l k
  unfold impl_Flow_lane.f
  repeat' first
      | (with_reducible exact ih0 _ _ _ _ _)
      | (with_reducible exact LeO.refl _)
      | (with_reducible exact LeO.none _)
      | (with_reducible refine LeO.ite ?_ ?_)
      | (with_reducible refine LeO.bind ?_ (fun _ => ?_))
      | exact ih0 _ _ _ _ _
      | exact LeO.none _
      | refine LeO.ite ?_ ?_
      | refine LeO.bind ?_ (fun _ => ?_)
set_option maxHeartbeats 8000000 in
set_option maxRecDepth 100000 in
theorem impl_Flow_lane.calls (k : Nat) (g0_ : Nat) (a0_0 : Int) (a0_1 : Int) (A0_2 : Option Addr) (c0_2 : Nat) (l0_2 : List (S48)) (a1 : Int) (r1 : Int) (r2 : Bool) (w : World) (hb0_ : w.heap[g0_]? = some (.cells #[.int .i64 a0_0, .int .i64 a0_1, .slice A0_2 l0_2.length c0_2] 24 (0, 0))) (hr0_2 : Kd.C k48 w A0_2 l0_2.length l0_2) (hc0_2 : l0_2.length ≤ c0_2) (h : impl_Flow_lane.f k a0_0 a0_1 l0_2 a1 = some (r1, r2)) :
    Calls Try.prog 50 #[.pointer (some ⟨g0_, 0, none⟩), .int .i64 a1] w fun e w' => e = .returned (.tuple #[.int .i64 r1, .bool r2]) ∧ Below w.heap.size w w' := by
  have HR0_2 := Aside0.mk hr0_2
  have HC0_2 := Aside0.mk hc0_2
  clear hr0_2 hc0_2
  have BK0 := Aside0.mk hb0_
  clear hb0_
  have HB := As_ (Below.refl w.heap.size w)
  have H : (impl_Flow_lane.l0 k a1 0 a0_0 a0_1 l0_2) = some (r1, r2) := h
  clear h
  have H' := Aside0.mk H
  clear H
  go_enter Try.func50, Try.ntmps50
  go_wp2
  repeat (go_quiet (fail); try go_wp2)
  go_loopg [6] k (fun kq v6 w' => ∃ (x6_1 : Int), v6 = .int .i64 x6_1 ∧ Aside0 (impl_Flow_lane.l0 kq a1 x6_1 a0_0 a0_1 l0_2 = some (r1, r2)) ∧ Aside0 (kq ≤ k) ∧ Aside0 (w'.heap[g0_]? = some (.cells #[.int .i64 a0_0, .int .i64 a0_1, (.slice A0_2 l0_2.length c0_2)] 24 (0, 0))) ∧ Aside0 (Below w.heap.size w w'))
  case atStart => exact ⟨(0), (by first | rfl | (simp; done) | (simp [*]; done)), H', ⟨Nat.le_refl _⟩, ⟨ak_ BK0.out⟩, ⟨zb0_ HB.out⟩⟩
  case round =>
    clear H'
    try clear p2
    obtain ⟨x6_1, rfl, HA, HK1, BK0, HB⟩ := hrel
    cases gk with
    | zero => exact absurd HA.out (by simp [impl_Flow_lane.l0])
    | succ k1 =>
      have H := HA.out
      clear HA
      simp only [impl_Flow_lane.l0] at H
      by_cases c3 : x6_1 < (l0_2.length : Int)
      · rw [if_pos c3] at H
        have c3b0 : decide (x6_1 < (l0_2.length : Int)) = true := decide_eq_true c3
        clear c3
        by_cases c4 : 0 ≤ x6_1
        · rw [if_pos c4] at H
          have c4b0 : decide (0 ≤ x6_1) = true := decide_eq_true c4
          clear c4
          by_cases c5 : ((rd_T48 l0_2 x6_1).f0) < a1
          · rw [if_pos c5] at H
            have c5b0 : decide (((rd_T48 l0_2 x6_1).f0) < a1) = true := decide_eq_true c5
            clear c5
            have H' := Aside0.mk H
            clear H
            obtain ⟨hcz6_0, hcz6_1, hcz6_2, hfz6_0, hfz6_1, hfz6_2⟩ := blk_all3 BK0.out
            have p190 : 0 ≤ (x6_1 : Int) := of_decide_eq_true sm_
            have q190 : x6_1 < (l0_2.length : Int) := of_decide_eq_true sm_
            obtain ⟨ad190, e190, hx190_0, hx190_1⟩ := at_T48 HR0_2.out x6_1 p190 q190
            cases e190
            replace hx190_0 := (HB.out.cell (World.block_lt_of_cell? w _ hx190_0)).trans hx190_0
            replace hx190_1 := (HB.out.cell (World.block_lt_of_cell? w _ hx190_1)).trans hx190_1
            replace p190 := eq_true p190
            replace q190 := eq_true q190
            go_wp2
            repeat (go_quiet (fail); try go_wp2)
            go_roundg k1
            case measure => have := HK1.out; omega
            case rel => exact ⟨(wrap64 (x6_1 + 1)), (by first | rfl | (simp; done) | (simp [*]; done)), H', ⟨by have := HK1.out; omega⟩, ⟨ak_ BK0.out⟩, ⟨zb0_ HB.out⟩⟩
          · rw [if_neg c5] at H
            have c5b0 : decide (((rd_T48 l0_2 x6_1).f0) < a1) = false := decide_eq_false c5
            clear c5
            simp only [Option.some.injEq, Prod.mk.injEq] at H
            obtain ⟨rfl, rfl⟩ := H
            obtain ⟨hcz7_0, hcz7_1, hcz7_2, hfz7_0, hfz7_1, hfz7_2⟩ := blk_all3 BK0.out
            have p190 : 0 ≤ (x6_1 : Int) := of_decide_eq_true sm_
            have q190 : x6_1 < (l0_2.length : Int) := of_decide_eq_true sm_
            obtain ⟨ad190, e190, hx190_0, hx190_1⟩ := at_T48 HR0_2.out x6_1 p190 q190
            cases e190
            replace hx190_0 := (HB.out.cell (World.block_lt_of_cell? w _ hx190_0)).trans hx190_0
            replace hx190_1 := (HB.out.cell (World.block_lt_of_cell? w _ hx190_1)).trans hx190_1
            replace p190 := eq_true p190
            replace q190 := eq_true q190
            have p191 : 0 ≤ (x6_1 : Int) := of_decide_eq_true sm_
            have q191 : x6_1 < (l0_2.length : Int) := of_decide_eq_true sm_
            obtain ⟨ad191, e191, hx191_0, hx191_1⟩ := at_T48 HR0_2.out x6_1 p191 q191
            obtain rfl : ad190 = ad191 := (by injection e191)
            replace hx191_0 := (HB.out.cell (World.block_lt_of_cell? w _ hx191_0)).trans hx191_0
            replace hx191_1 := (HB.out.cell (World.block_lt_of_cell? w _ hx191_1)).trans hx191_1
            replace p191 := eq_true p191
            replace q191 := eq_true q191
            go_wp2
            repeat (go_quiet (fail); try go_wp2)
            go_ret2
            exact ⟨by first | rfl | (simp [errW_none, errW_some] <;> rfl) | (simp [*, errW_none, errW_some] <;> rfl), zb0_ HB.out⟩
        · rw [if_neg c4] at H
          exact absurd H (by simp)
      · rw [if_neg c3] at H
        have c3b0 : decide (x6_1 < (l0_2.length : Int)) = false := decide_eq_false c3
        clear c3
        simp only [Option.some.injEq, Prod.mk.injEq] at H
        obtain ⟨rfl, rfl⟩ := H
        obtain ⟨hcz8_0, hcz8_1, hcz8_2, hfz8_0, hfz8_1, hfz8_2⟩ := blk_all3 BK0.out
        go_wp2
        repeat (go_quiet (fail); try go_wp2)
        go_ret2
        exact ⟨by first | rfl | (simp [errW_none, errW_some] <;> rfl) | (simp [*, errW_none, errW_some] <;> rfl), zb0_ HB.out⟩

/-! ### slices_Delete_Lane: function 51 -/
def slices_Delete_Lane.f (l0 : List S48) (a1 : Int) (a2 : Int) : Option (List S48) := if 0 ≤ a1 then (if a1 < (l0.length : Int) then (if a2 = a1 + 1 then some (l0.eraseIdx a1.toNat) else none) else none) else none
set_option maxHeartbeats 8000000 in
set_option maxRecDepth 100000 in
theorem slices_Delete_Lane.calls (P0_ : Nat → Prop) (u9000_ : Value) (l0 : List S48) (a1 a2 : Int) (r : List S48) (w0 w : World) (hB : Below w0.heap.size w0 w) (ho0 : Kd.R k48 48 w w0.heap.size P0_ u9000_ l0) (h : slices_Delete_Lane.f l0 a1 a2 = some r) :
    Calls Try.prog 51 #[u9000_, .int .i64 a1, .int .i64 a2] w fun e w' => ∃ v0_ : Value, e = .returned (v0_) ∧ Kd.R k48 48 w' w0.heap.size (fun k_ => (P0_ k_ ∨ w.heap.size ≤ k_)) v0_ r ∧ Below w0.heap.size w0 w' ∧ Kept w w' (fun k_ => P0_ k_) := by
  obtain ⟨k, m, rfl, hn, hk, rfl, rfl⟩ : ∃ k m : Nat, a1 = (k : Int) ∧ m + 1 = l0.length ∧ k ≤ m ∧ a2 = (k : Int) + 1 ∧ r = l0.eraseIdx k := by
    unfold slices_Delete_Lane.f at h
    split at h
    · split at h
      · split at h
        · injection h with h
          exact ⟨a1.toNat, l0.length - 1, by omega, by omega, by omega, by omega, h.symm⟩
        · cases h
      · cases h
    · cases h
  clear h
  obtain ⟨A, c, rfl, hnc, _⟩ := Kd.R_reads ho0
  obtain ⟨inner, hown⟩ := Kd.R_own ho0
  obtain ⟨g, cap, he, hg1, hg2⟩ := hown.form (by omega)
  injection he with he1 he2 he3
  subst he1; subst he3
  rw [← hn] at hnc ho0
  rw [← hn]
  have HK := Lib.hid hk
  have HP := Lib.hid (ho0.1 g (by simp [Value.ownBlock]))
  have HO := Lib.hid ho0
  have HB := Lib.hid hB
  have HB2 := Lib.hid hB.size
  have hkc : k ≤ c := by omega
  have hk1 : k + 1 ≤ c := by omega
  have hk3 : (k : Int) ≤ (m : Int) := by omega
  have hk4 : 0 ≤ (k : Int) + 1 := by omega
  have hmc : m ≤ c := by omega
  have hmc1 : m + 1 ≤ c := by omega
  have hmn : ¬ (c = m) := by omega
  have HA : Hid ((if c = k + 1 then some (⟨g, 0, none⟩ : Addr) else some ⟨g, (k + 1) * 2, none⟩) = if c = k + 1 then some ⟨g, 0, none⟩ else (some (⟨g, 0, none⟩ : Addr)).map (·.add ((k + 1) * k48.sz))) := Lib.hid (by
    split
    · rfl
    · rw [Option.map_some, add_plain]; rfl)
  clear hown hn ho0 he2 hB hk
  go_enter Try.func51, Try.ntmps51
  go_wp2_with fail
  go_region_law (refine Kd.R_delete_step k48 (w0 := w0) w0.heap.size (by simp [Region.wanted]) (.tmp 22) (.tmp 25) 22 48 rfl Try.underlying22 (by kernel_rfl) (g := g) (n := m + 1) (c := c) (k := k) (m := m + 1 - (k + 1)) (c2 := c - (k + 1)) (A := if c = k + 1 then some ⟨g, 0, none⟩ else some ⟨g, (k + 1) * 2, none⟩) (ok := P0_) (xs := l0) (by simp [Act.eval, Act.put]) (by simp [Act.eval, Act.put]) HA.out rfl HO.out (Nat.lt_succ_of_le HK.out) (below_drew1 HB.out) HB2.out ?_; intro w1 HO1 HB1 hg1)
  obtain ⟨w2, hcl, HO3, hg3⟩ := Kd.R_clear_run (P := Try.prog) k48 w0.heap.size 22 0 48 (.agg #[(.int .i64 0), (.int .i64 0)]) Try.underlying22 Try.zeroValue48 rfl (by intro v hv; have hv2 : v ∈ #[Value.int .i64 0, Value.int .i64 0] := hv; simp at hv2; rcases hv2 with rfl | rfl <;> rfl) HO1 (m := 1) (by omega) (by omega) (c - m)
  replace hcl : (Builtin.clear_ #[22] 0 #[.slice (some ⟨g, m * 2, none⟩) 1 (c - m)]).run Try.prog w1 = .ok (.tuple #[]) w2 := hcl
  have HO4 : Hid (Kd.R k48 48 w2 w0.heap.size P0_ (.slice (some ⟨g, 0, none⟩) m c) (l0.eraseIdx k)) := Lib.hid HO3
  have HB4 := Lib.hid (HB1.grown hg3 (Nat.le_trans HB2.out hg1.size) (fun k_ hk_ => by injection hk_ with hk_; omega))
  have HG4 := Lib.hid (World.grownBy.trans hg1 hg3)
  clear HO1 HB1 hg1 HO3 hg3
  go_wp2_with fail
  all_goals
    try (subst h)
    go_ret
    exact ⟨_, rfl, Kd.R_mono HO4.out (fun _ hk => .inl hk), HB4.out, Kept.of_grown (W := w.drew) HG4.out (Kept.refl w _) (fun k_ e_ => .inl (by injection e_ with e_; subst e_; exact HP.out))⟩

/-! ### impl_CloseLane: function 27 -/
def impl_CloseLane.f (k : Nat) (a0_0 : Int) (a0_1 : Int) (l0_2 : List (S48)) (a1 : Int) : Option (Int × Int × (List (S48)) × Bool) := (impl_copyFlow.f a0_0 a0_1 l0_2).bind fun bt194 => ((impl_Flow_lane.f k a0_0 a0_1 l0_2 a1).bind fun bt200 => (if bt200.2 = true then ((impl_FlowOk.f k a0_0 a0_1 l0_2).bind fun t202 => (if t202 = true then ((slices_Delete_Lane.f bt194.2.2 bt200.1 (wrap64 (bt200.1 + 1))).bind fun t203 => (some (bt194.1, bt194.2.1, t203, true))) else (some (bt194.1, bt194.2.1, bt194.2.2, false)))) else (some (bt194.1, bt194.2.1, bt194.2.2, false))))
theorem impl_CloseLane.mono : ∀ a0 a1 a2 a3 k, LeO (impl_CloseLane.f k a0 a1 a2 a3) (impl_CloseLane.f (k + 1) a0 a1 a2 a3) := by
  intro a0 a1 a2 a3 k
  unfold impl_CloseLane.f
  repeat' first
      | (with_reducible exact impl_FlowOk.mono _ _ _ _)
      | (with_reducible exact impl_Flow_lane.mono _ _ _ _ _)
      | (with_reducible exact LeO.refl _)
      | (with_reducible exact LeO.none _)
      | (with_reducible refine LeO.ite ?_ ?_)
      | (with_reducible refine LeO.bind ?_ (fun _ => ?_))
      | exact impl_FlowOk.mono _ _ _ _
      | exact impl_Flow_lane.mono _ _ _ _ _
      | exact LeO.none _
      | refine LeO.ite ?_ ?_
      | refine LeO.bind ?_ (fun _ => ?_)
set_option maxHeartbeats 8000000 in
set_option maxRecDepth 100000 in
theorem impl_CloseLane.calls (k : Nat) (a0_0 : Int) (a0_1 : Int) (A0_2 : Option Addr) (c0_2 : Nat) (l0_2 : List (S48)) (a1 : Int) (r1 : Int) (r2 : Int) (r3 : List (S48)) (r4 : Bool) (w : World) (hr0_2 : Kd.C k48 w A0_2 l0_2.length l0_2) (hc0_2 : l0_2.length ≤ c0_2) (h : impl_CloseLane.f k a0_0 a0_1 l0_2 a1 = some (r1, r2, r3, r4)) :
    Calls Try.prog 27 #[.agg #[.int .i64 a0_0, .int .i64 a0_1, .slice A0_2 l0_2.length c0_2], .int .i64 a1] w fun e w' => ∃ v2_ : Value, e = .returned (.tuple #[.agg #[.int .i64 r1, .int .i64 r2, v2_], .bool r4]) ∧ Kd.R k48 48 w' w.heap.size (fun _ => True) v2_ r3 ∧ Below w.heap.size w w' := by
  have hu24 := Try.underlying24
  have HR0_2 := Aside0.mk hr0_2
  have HC0_2 := Aside0.mk hc0_2
  clear hr0_2 hc0_2
  have HB := As_ (Below.refl w.heap.size w)
  have H : ((impl_copyFlow.f a0_0 a0_1 l0_2).bind fun bt194 => ((impl_Flow_lane.f k a0_0 a0_1 l0_2 a1).bind fun bt200 => (if bt200.2 = true then ((impl_FlowOk.f k a0_0 a0_1 l0_2).bind fun t202 => (if t202 = true then ((slices_Delete_Lane.f bt194.2.2 bt200.1 (wrap64 (bt200.1 + 1))).bind fun t203 => (some (bt194.1, bt194.2.1, t203, true))) else (some (bt194.1, bt194.2.1, bt194.2.2, false)))) else (some (bt194.1, bt194.2.1, bt194.2.2, false))))) = some (r1, r2, r3, r4) := h
  clear h
  replace H := Option.bind_eq_some_iff.mp H
  obtain ⟨⟨t194, t195, t196⟩, A30, H⟩ := H
  replace H : ((impl_Flow_lane.f k a0_0 a0_1 l0_2 a1).bind fun bt200 => (if bt200.2 = true then ((impl_FlowOk.f k a0_0 a0_1 l0_2).bind fun t202 => (if t202 = true then ((slices_Delete_Lane.f t196 bt200.1 (wrap64 (bt200.1 + 1))).bind fun t203 => (some (t194, t195, t203, true))) else (some (t194, t195, t196, false)))) else (some (t194, t195, t196, false)))) = some (r1, r2, r3, r4) := H
  have A3 := Aside0.mk A30
  clear A30
  replace H := Option.bind_eq_some_iff.mp H
  obtain ⟨⟨t200, t201⟩, A40, H⟩ := H
  replace H : (if t201 = true then ((impl_FlowOk.f k a0_0 a0_1 l0_2).bind fun t202 => (if t202 = true then ((slices_Delete_Lane.f t196 t200 (wrap64 (t200 + 1))).bind fun t203 => (some (t194, t195, t203, true))) else (some (t194, t195, t196, false)))) else (some (t194, t195, t196, false))) = some (r1, r2, r3, r4) := H
  have A4 := Aside0.mk A40
  clear A40
  by_cases c5 : t201 = true
  · subst c5
    have H1 : ((impl_FlowOk.f k a0_0 a0_1 l0_2).bind fun t202 => (if t202 = true then ((slices_Delete_Lane.f t196 t200 (wrap64 (t200 + 1))).bind fun t203 => (some (t194, t195, t203, true))) else (some (t194, t195, t196, false)))) = some (r1, r2, r3, r4) := by rw [if_pos rfl] at H; exact H
    clear H
    have H := H1
    clear H1
    replace H := Option.bind_eq_some_iff.mp H
    obtain ⟨t202, A60, H⟩ := H
    replace H : (if t202 = true then ((slices_Delete_Lane.f t196 t200 (wrap64 (t200 + 1))).bind fun t203 => (some (t194, t195, t203, true))) else (some (t194, t195, t196, false))) = some (r1, r2, r3, r4) := H
    have A6 := Aside0.mk A60
    clear A60
    by_cases c7 : t202 = true
    · subst c7
      have H1 : ((slices_Delete_Lane.f t196 t200 (wrap64 (t200 + 1))).bind fun t203 => (some (t194, t195, t203, true))) = some (r1, r2, r3, r4) := by rw [if_pos rfl] at H; exact H
      clear H
      have H := H1
      clear H1
      replace H := Option.bind_eq_some_iff.mp H
      obtain ⟨t203, A80, H⟩ := H
      replace H : (some (t194, t195, t203, true)) = some (r1, r2, r3, r4) := H
      have A8 := Aside0.mk A80
      clear A80
      simp only [Option.some.injEq, Prod.mk.injEq] at H
      obtain ⟨rfl, rfl, rfl, rfl⟩ := H
      go_enter Try.func27, Try.ntmps27
      go_wp2_with (first | ((with_reducible refine gate_dst (N := 2) rfl ?_); refine box_event ?hg (N := 2) ?hd (cs := #[.int .i64 a0_0, .int .i64 a0_1, .slice A0_2 l0_2.length c0_2]) (t := 24) ?hr ?_; (case hd => rfl); (case hg => rfl); (case hr => first | (go_simp; done) | (go_simp; rfl)); intro gb192 hg w9 hbox hb; have n0_ := As_ (below_step (zb0_ HB.out) hb); have n1_ := As_ (hbox); have n2_ := As_ ((sb_ hg (zb0_ HB.out) : w.heap.size ≤ gb192)); have n3_ := As_ ((sb_ hg (zb0_ HB.out) : w.heap.size ≤ gb192)); clear HB; have HB := n0_; have BK192 := n1_; have GW192 := n2_; have GE192 := n3_; clear n0_ n1_ n2_ n3_ hb hbox hg) | ((with_reducible refine gate_dst (N := 4) rfl ?_); refine box_event ?hg (N := 4) ?hd (cs := #[.int .i64 0, .int .i64 0, .slice none 0 0]) (t := 24) ?hr ?_; (case hd => rfl); (case hg => rfl); (case hr => first | (go_simp; done) | (go_simp; rfl)); intro gb193 hg w10 hbox hb; have n0_ := As_ (blk_below (g := gb192) (o := .cells #[.int .i64 a0_0, .int .i64 a0_1, .slice A0_2 l0_2.length c0_2] 24 (0, 0)) (ak_ BK192.out) hb); have n1_ := As_ (below_step (zb1_ HB.out GE192.out) hb); have n2_ := As_ (hbox); have n3_ := As_ ((sb_ hg (zb1_ HB.out GE192.out) : w.heap.size ≤ gb193)); have n4_ := As_ ((sb_ hg (zb1_ HB.out GE192.out) : w.heap.size ≤ gb193)); have n5_ := As_ ((nl_ hg BK192.out : gb192 ≠ gb193)); have n6_ := As_ ((ng_ hg BK192.out : gb193 ≠ gb192)); clear BK192 HB; have BK192 := n0_; have HB := n1_; have BK193 := n2_; have GW193 := n3_; have GE193 := n4_; have NB192_193 := n5_; have NB193_192 := n6_; clear n0_ n1_ n2_ n3_ n4_ n5_ n6_ hb hbox hg; have hnb11 := NB192_193.out; have hnc11 := NB193_192.out; obtain ⟨hcz12_0, hcz12_1, hcz12_2, hfz12_0, hfz12_1, hfz12_2⟩ := blk_all3 BK192.out) | ((with_reducible refine gate_callee (f := 49) rfl ?_); refine goesL_ (some 10) rfl rfl Try.func49 (by kernel_rfl) rfl #[.agg #[.int .i64 a0_0, .int .i64 a0_1, .slice A0_2 l0_2.length c0_2]] rfl tm_ ?_; (with_reducible refine (impl_copyFlow.calls a0_0 a0_1 _ _ l0_2 t194 t195 t196 _ ?side1 ?side2 A3.out).mono ?_); (case side1 => repeat (first | exact (Kd.C_below HR0_2.out HB.out) | (with_reducible first | apply cA_ | apply cN_ | apply cD_))); (case side2 => exact HC0_2.out); rintro e w13 ⟨v197, rfl, ho0, hb⟩; refine ⟨_, rfl, ?_⟩; have HO198 := As_ (Kd.R_lower ho0 (below_size (zb2_ HB.out GE192.out GE193.out))); replace BK192 := As_ (blk_below (g := gb192) (o := .cells #[.int .i64 a0_0, .int .i64 a0_1, .slice A0_2 l0_2.length c0_2] 24 (0, 0)) (ak_ BK192.out) hb); replace BK193 := As_ (blk_below (g := gb193) (o := .cells #[.int .i64 0, .int .i64 0, .slice none 0 0] 24 (0, 0)) (ak_ BK193.out) hb); replace HB := As_ (below_step (zb2_ HB.out GE192.out GE193.out) hb); (try clear hb); (try clear hb2); (try clear hk); (try clear hi); (try clear ho0)) | ((with_reducible refine gate_dst (N := 6) rfl ?_); refine box_event ?hg (N := 6) ?hd (cs := #[.int .i64 0, .int .i64 0, .slice none 0 0]) (t := 24) ?hr ?_; (case hd => rfl); (case hg => rfl); (case hr => first | (go_simp; done) | (go_simp; rfl)); intro gb199 hg w14 hbox hb; have n0_ := As_ (Kd.R_below (rk_ HO198.out) hb); have n1_ := As_ (blk_below (g := gb192) (o := .cells #[.int .i64 a0_0, .int .i64 a0_1, .slice A0_2 l0_2.length c0_2] 24 (0, 0)) (ak_ BK192.out) hb); have n2_ := As_ (blk_below (g := gb193) (o := .cells #[.int .i64 0, .int .i64 0, .slice none 0 0] 24 (0, 0)) (ak_ BK193.out) hb); have n3_ := As_ (below_step (zb2_ HB.out GE192.out GE193.out) hb); have n4_ := As_ (hbox); have n5_ := As_ ((sb_ hg (zb2_ HB.out GE192.out GE193.out) : w.heap.size ≤ gb199)); have n6_ := As_ ((sb_ hg (zb2_ HB.out GE192.out GE193.out) : w.heap.size ≤ gb199)); have n7_ := As_ ((nl_ hg BK192.out : gb192 ≠ gb199)); have n8_ := As_ ((ng_ hg BK192.out : gb199 ≠ gb192)); have n9_ := As_ ((nl_ hg BK193.out : gb193 ≠ gb199)); have n10_ := As_ ((ng_ hg BK193.out : gb199 ≠ gb193)); clear HO198 BK192 BK193 HB; have HO198 := n0_; have BK192 := n1_; have BK193 := n2_; have HB := n3_; have BK199 := n4_; have GW199 := n5_; have GE199 := n6_; have NB192_199 := n7_; have NB199_192 := n8_; have NB193_199 := n9_; have NB199_193 := n10_; clear n0_ n1_ n2_ n3_ n4_ n5_ n6_ n7_ n8_ n9_ n10_ hb hbox hg; have hnb15 := NB199_192.out; have hnc15 := NB192_199.out; have hnb16 := NB199_193.out; have hnc16 := NB193_199.out; obtain ⟨hcz17_0, hcz17_1, hcz17_2, hfz17_0, hfz17_1, hfz17_2⟩ := blk_all3 BK199.out; obtain ⟨Ao18, co18, eo18⟩ := Kd.R_slice HO198.out; subst eo18) | ((with_reducible refine gate_callee (f := 50) rfl ?_); refine goesL_ (some 13) rfl rfl Try.func50 (by kernel_rfl) rfl #[.pointer (some ⟨gb192, 0, none⟩), .int .i64 a1] rfl tm_ ?_; (with_reducible refine (impl_Flow_lane.calls k gb192 a0_0 a0_1 A0_2 c0_2 l0_2 a1 t200 true _ ?side1 ?side2 ?side3 A4.out).mono ?_); (case side1 => (with_reducible repeat (first | apply kN_ | apply kD_ | apply kA_)); refine blk_far ?_ NB192_199.out _; (with_reducible repeat (first | apply kN_ | apply kD_ | apply kA_)); refine blk_far ?_ NB192_199.out _; (with_reducible repeat (first | apply kN_ | apply kD_ | apply kA_)); refine blk_far ?_ NB192_199.out _; (with_reducible repeat (first | apply kN_ | apply kD_ | apply kA_)); exact BK192.out); (case side2 => exact Kd.C_below HR0_2.out (zb3_ HB.out GE192.out GE193.out GE199.out)); (case side3 => exact HC0_2.out); rintro e w19 ⟨rfl, hb⟩; refine ⟨_, rfl, ?_⟩; replace HO198 := As_ (Kd.R_below (rf3_ HO198.out BK199.out) hb); replace BK192 := As_ (blk_below (g := gb192) (o := .cells #[.int .i64 a0_0, .int .i64 a0_1, .slice A0_2 l0_2.length c0_2] 24 (0, 0)) (af_ NB192_199.out BK192.out) hb); replace BK193 := As_ (blk_below (g := gb193) (o := .cells #[.int .i64 0, .int .i64 0, .slice none 0 0] 24 (0, 0)) (af_ NB193_199.out BK193.out) hb); replace BK199 := As_ (blk_below (g := gb199) (o := .cells #[.int .i64 t194, .int .i64 t195, .slice Ao18 t196.length co18] 24 (0, 0)) (ap_ BK199.out) hb); replace HB := As_ (below_step (zb3_ HB.out GE192.out GE193.out GE199.out) hb); (try clear hb); (try clear hb2); (try clear hk); (try clear hi); obtain ⟨hcz20_0, hcz20_1, hcz20_2, hfz20_0, hfz20_1, hfz20_2⟩ := blk_all3 BK192.out) | (go_at_call 21; (with_reducible refine (impl_FlowOk.calls k a0_0 a0_1 _ _ l0_2 true _ ?side1 ?side2 A6.out).mono ?_); (case side1 => repeat (first | exact (Kd.C_below HR0_2.out HB.out) | (with_reducible first | apply cA_ | apply cN_ | apply cD_))); (case side2 => exact HC0_2.out); rintro e w21 ⟨rfl, hb⟩; replace HO198 := As_ (Kd.R_below (rk_ HO198.out) hb); replace BK192 := As_ (blk_below (g := gb192) (o := .cells #[.int .i64 a0_0, .int .i64 a0_1, .slice A0_2 l0_2.length c0_2] 24 (0, 0)) (ak_ BK192.out) hb); replace BK193 := As_ (blk_below (g := gb193) (o := .cells #[.int .i64 0, .int .i64 0, .slice none 0 0] 24 (0, 0)) (ak_ BK193.out) hb); replace BK199 := As_ (blk_below (g := gb199) (o := .cells #[.int .i64 t194, .int .i64 t195, .slice Ao18 t196.length co18] 24 (0, 0)) (ak_ BK199.out) hb); replace HB := As_ (below_step (zb3_ HB.out GE192.out GE193.out GE199.out) hb); (try clear hb); (try clear hb2); (try clear hk); (try clear hi); obtain ⟨hcz22_0, hcz22_1, hcz22_2, hfz22_0, hfz22_1, hfz22_2⟩ := blk_all3 BK199.out) | ((with_reducible refine gate_callee (f := 51) rfl ?_); refine goesL_ (some 29) rfl rfl Try.func51 (by kernel_rfl) rfl #[.slice Ao18 t196.length co18, .int .i64 t200, .int .i64 (wrap64 (t200 + 1))] rfl tm_ ?_; (with_reducible refine (slices_Delete_Lane.calls (fun k_ => some k_ = (.slice Ao18 t196.length co18 : Value).ownBlock) (.slice Ao18 t196.length co18) t196 t200 (wrap64 (t200 + 1)) t203 w _ ?side1 ?side2 A8.out).mono ?_); (case side1 => repeat (first | (with_reducible first | exact HB.out | apply bA_ | apply bN_ | apply bD_ | refine bS_ ?_ GE192.out | refine bS_ ?_ GE193.out | refine bS_ ?_ GE199.out) | exact HB.out)); (case side2 => exact Kd.R_tight rfl HO198.out); rintro e w23 ⟨v204, rfl, ho0, hb, hkp⟩; refine ⟨_, rfl, ?_⟩; replace BK192 := As_ (blk_kept (ak_ BK192.out) hkp (fun hs_ => (fun e_ => (Kd.R_ne HO198.out BK192.out (by decide)) e_) hs_)); replace BK193 := As_ (blk_kept (ak_ BK193.out) hkp (fun hs_ => (fun e_ => (Kd.R_ne HO198.out BK193.out (by decide)) e_) hs_)); replace BK199 := As_ (blk_kept (ak_ BK199.out) hkp (fun hs_ => (fun e_ => (Kd.R_ne HO198.out BK199.out (by decide)) e_) hs_)); have HO205 := As_ (Kd.R_mono (ok' := fun k_ => True) ho0 (fun k_ hk_ => trivial)); replace HB := As_ (hb); clear HO198; (try clear hb); (try clear hkp); (try clear ho0); obtain ⟨Ao24, co24, eo24⟩ := Kd.R_slice HO205.out; subst eo24; obtain ⟨hcz25_0, hcz25_1, hcz25_2, hfz25_0, hfz25_1, hfz25_2⟩ := blk_all3 BK199.out; obtain ⟨hcz26_0, hcz26_1, hcz26_2, hfz26_0, hfz26_1, hfz26_2⟩ := blk_all3 BK193.out))
      refine bodyPost_ret (results_ct rfl _ _ gb193 24 #[.int .i64 t194, .int .i64 t195, .slice Ao24 t203.length co24] (0, 0) _ rfl (ag_ NB193_199.out BK193.out) Try.underlying24 rfl (by kernel_rfl)) rfl ?_
      exact ⟨_, by first | rfl | (simp [errW_none, errW_some] <;> rfl) | (simp [*, errW_none, errW_some] <;> rfl), by (with_reducible repeat (first | apply rA_ | apply rN_ | apply rD_)); exact Kd.R_mono (Kd.R_far (p := ⟨gb193, 2, none⟩) (Kd.R_far (p := ⟨gb193, 1, none⟩) (Kd.R_far (p := ⟨gb193, 0, none⟩) (Kd.R_far (p := ⟨gb199, 2, none⟩) (Kd.R_types (Kd.R_types HO205.out BK199.out (by decide)) BK193.out (by decide)) (fun _ hk => hk.1.2) (.slice Ao24 t203.length co24)) (fun _ hk => hk.2) (.int .i64 t194)) (fun _ hk => hk.2) (.int .i64 t195)) (fun _ hk => hk.2) (.slice Ao24 t203.length co24)) (fun _ hk => trivial), zb3_ HB.out GE192.out GE193.out GE199.out⟩
    · replace c7 := Bool.eq_false_iff.mpr c7
      subst c7
      have H1 : (some (t194, t195, t196, false)) = some (r1, r2, r3, r4) := by rw [if_neg (show ¬ (false = true) by decide)] at H; exact H
      clear H
      have H := H1
      clear H1
      simp only [Option.some.injEq, Prod.mk.injEq] at H
      obtain ⟨rfl, rfl, rfl, rfl⟩ := H
      go_enter Try.func27, Try.ntmps27
      go_wp2_with (first | ((with_reducible refine gate_dst (N := 2) rfl ?_); refine box_event ?hg (N := 2) ?hd (cs := #[.int .i64 a0_0, .int .i64 a0_1, .slice A0_2 l0_2.length c0_2]) (t := 24) ?hr ?_; (case hd => rfl); (case hg => rfl); (case hr => first | (go_simp; done) | (go_simp; rfl)); intro gb192 hg w27 hbox hb; have n0_ := As_ (below_step (zb0_ HB.out) hb); have n1_ := As_ (hbox); have n2_ := As_ ((sb_ hg (zb0_ HB.out) : w.heap.size ≤ gb192)); have n3_ := As_ ((sb_ hg (zb0_ HB.out) : w.heap.size ≤ gb192)); clear HB; have HB := n0_; have BK192 := n1_; have GW192 := n2_; have GE192 := n3_; clear n0_ n1_ n2_ n3_ hb hbox hg) | ((with_reducible refine gate_dst (N := 4) rfl ?_); refine box_event ?hg (N := 4) ?hd (cs := #[.int .i64 0, .int .i64 0, .slice none 0 0]) (t := 24) ?hr ?_; (case hd => rfl); (case hg => rfl); (case hr => first | (go_simp; done) | (go_simp; rfl)); intro gb193 hg w28 hbox hb; have n0_ := As_ (blk_below (g := gb192) (o := .cells #[.int .i64 a0_0, .int .i64 a0_1, .slice A0_2 l0_2.length c0_2] 24 (0, 0)) (ak_ BK192.out) hb); have n1_ := As_ (below_step (zb1_ HB.out GE192.out) hb); have n2_ := As_ (hbox); have n3_ := As_ ((sb_ hg (zb1_ HB.out GE192.out) : w.heap.size ≤ gb193)); have n4_ := As_ ((sb_ hg (zb1_ HB.out GE192.out) : w.heap.size ≤ gb193)); have n5_ := As_ ((nl_ hg BK192.out : gb192 ≠ gb193)); have n6_ := As_ ((ng_ hg BK192.out : gb193 ≠ gb192)); clear BK192 HB; have BK192 := n0_; have HB := n1_; have BK193 := n2_; have GW193 := n3_; have GE193 := n4_; have NB192_193 := n5_; have NB193_192 := n6_; clear n0_ n1_ n2_ n3_ n4_ n5_ n6_ hb hbox hg; have hnb29 := NB192_193.out; have hnc29 := NB193_192.out; obtain ⟨hcz30_0, hcz30_1, hcz30_2, hfz30_0, hfz30_1, hfz30_2⟩ := blk_all3 BK192.out) | ((with_reducible refine gate_callee (f := 49) rfl ?_); refine goesL_ (some 10) rfl rfl Try.func49 (by kernel_rfl) rfl #[.agg #[.int .i64 a0_0, .int .i64 a0_1, .slice A0_2 l0_2.length c0_2]] rfl tm_ ?_; (with_reducible refine (impl_copyFlow.calls a0_0 a0_1 _ _ l0_2 t194 t195 t196 _ ?side1 ?side2 A3.out).mono ?_); (case side1 => repeat (first | exact (Kd.C_below HR0_2.out HB.out) | (with_reducible first | apply cA_ | apply cN_ | apply cD_))); (case side2 => exact HC0_2.out); rintro e w31 ⟨v197, rfl, ho0, hb⟩; refine ⟨_, rfl, ?_⟩; have HO198 := As_ (Kd.R_lower ho0 (below_size (zb2_ HB.out GE192.out GE193.out))); replace BK192 := As_ (blk_below (g := gb192) (o := .cells #[.int .i64 a0_0, .int .i64 a0_1, .slice A0_2 l0_2.length c0_2] 24 (0, 0)) (ak_ BK192.out) hb); replace BK193 := As_ (blk_below (g := gb193) (o := .cells #[.int .i64 0, .int .i64 0, .slice none 0 0] 24 (0, 0)) (ak_ BK193.out) hb); replace HB := As_ (below_step (zb2_ HB.out GE192.out GE193.out) hb); (try clear hb); (try clear hb2); (try clear hk); (try clear hi); (try clear ho0)) | ((with_reducible refine gate_dst (N := 6) rfl ?_); refine box_event ?hg (N := 6) ?hd (cs := #[.int .i64 0, .int .i64 0, .slice none 0 0]) (t := 24) ?hr ?_; (case hd => rfl); (case hg => rfl); (case hr => first | (go_simp; done) | (go_simp; rfl)); intro gb199 hg w32 hbox hb; have n0_ := As_ (Kd.R_below (rk_ HO198.out) hb); have n1_ := As_ (blk_below (g := gb192) (o := .cells #[.int .i64 a0_0, .int .i64 a0_1, .slice A0_2 l0_2.length c0_2] 24 (0, 0)) (ak_ BK192.out) hb); have n2_ := As_ (blk_below (g := gb193) (o := .cells #[.int .i64 0, .int .i64 0, .slice none 0 0] 24 (0, 0)) (ak_ BK193.out) hb); have n3_ := As_ (below_step (zb2_ HB.out GE192.out GE193.out) hb); have n4_ := As_ (hbox); have n5_ := As_ ((sb_ hg (zb2_ HB.out GE192.out GE193.out) : w.heap.size ≤ gb199)); have n6_ := As_ ((sb_ hg (zb2_ HB.out GE192.out GE193.out) : w.heap.size ≤ gb199)); have n7_ := As_ ((nl_ hg BK192.out : gb192 ≠ gb199)); have n8_ := As_ ((ng_ hg BK192.out : gb199 ≠ gb192)); have n9_ := As_ ((nl_ hg BK193.out : gb193 ≠ gb199)); have n10_ := As_ ((ng_ hg BK193.out : gb199 ≠ gb193)); clear HO198 BK192 BK193 HB; have HO198 := n0_; have BK192 := n1_; have BK193 := n2_; have HB := n3_; have BK199 := n4_; have GW199 := n5_; have GE199 := n6_; have NB192_199 := n7_; have NB199_192 := n8_; have NB193_199 := n9_; have NB199_193 := n10_; clear n0_ n1_ n2_ n3_ n4_ n5_ n6_ n7_ n8_ n9_ n10_ hb hbox hg; have hnb33 := NB199_192.out; have hnc33 := NB192_199.out; have hnb34 := NB199_193.out; have hnc34 := NB193_199.out; obtain ⟨hcz35_0, hcz35_1, hcz35_2, hfz35_0, hfz35_1, hfz35_2⟩ := blk_all3 BK199.out; obtain ⟨Ao36, co36, eo36⟩ := Kd.R_slice HO198.out; subst eo36) | ((with_reducible refine gate_callee (f := 50) rfl ?_); refine goesL_ (some 13) rfl rfl Try.func50 (by kernel_rfl) rfl #[.pointer (some ⟨gb192, 0, none⟩), .int .i64 a1] rfl tm_ ?_; (with_reducible refine (impl_Flow_lane.calls k gb192 a0_0 a0_1 A0_2 c0_2 l0_2 a1 t200 true _ ?side1 ?side2 ?side3 A4.out).mono ?_); (case side1 => (with_reducible repeat (first | apply kN_ | apply kD_ | apply kA_)); refine blk_far ?_ NB192_199.out _; (with_reducible repeat (first | apply kN_ | apply kD_ | apply kA_)); refine blk_far ?_ NB192_199.out _; (with_reducible repeat (first | apply kN_ | apply kD_ | apply kA_)); refine blk_far ?_ NB192_199.out _; (with_reducible repeat (first | apply kN_ | apply kD_ | apply kA_)); exact BK192.out); (case side2 => exact Kd.C_below HR0_2.out (zb3_ HB.out GE192.out GE193.out GE199.out)); (case side3 => exact HC0_2.out); rintro e w37 ⟨rfl, hb⟩; refine ⟨_, rfl, ?_⟩; replace HO198 := As_ (Kd.R_below (rf3_ HO198.out BK199.out) hb); replace BK192 := As_ (blk_below (g := gb192) (o := .cells #[.int .i64 a0_0, .int .i64 a0_1, .slice A0_2 l0_2.length c0_2] 24 (0, 0)) (af_ NB192_199.out BK192.out) hb); replace BK193 := As_ (blk_below (g := gb193) (o := .cells #[.int .i64 0, .int .i64 0, .slice none 0 0] 24 (0, 0)) (af_ NB193_199.out BK193.out) hb); replace BK199 := As_ (blk_below (g := gb199) (o := .cells #[.int .i64 t194, .int .i64 t195, .slice Ao36 t196.length co36] 24 (0, 0)) (ap_ BK199.out) hb); replace HB := As_ (below_step (zb3_ HB.out GE192.out GE193.out GE199.out) hb); (try clear hb); (try clear hb2); (try clear hk); (try clear hi); obtain ⟨hcz38_0, hcz38_1, hcz38_2, hfz38_0, hfz38_1, hfz38_2⟩ := blk_all3 BK192.out) | (go_at_call 21; (with_reducible refine (impl_FlowOk.calls k a0_0 a0_1 _ _ l0_2 false _ ?side1 ?side2 A6.out).mono ?_); (case side1 => repeat (first | exact (Kd.C_below HR0_2.out HB.out) | (with_reducible first | apply cA_ | apply cN_ | apply cD_))); (case side2 => exact HC0_2.out); rintro e w39 ⟨rfl, hb⟩; replace HO198 := As_ (Kd.R_below (rk_ HO198.out) hb); replace BK192 := As_ (blk_below (g := gb192) (o := .cells #[.int .i64 a0_0, .int .i64 a0_1, .slice A0_2 l0_2.length c0_2] 24 (0, 0)) (ak_ BK192.out) hb); replace BK193 := As_ (blk_below (g := gb193) (o := .cells #[.int .i64 0, .int .i64 0, .slice none 0 0] 24 (0, 0)) (ak_ BK193.out) hb); replace BK199 := As_ (blk_below (g := gb199) (o := .cells #[.int .i64 t194, .int .i64 t195, .slice Ao36 t196.length co36] 24 (0, 0)) (ak_ BK199.out) hb); replace HB := As_ (below_step (zb3_ HB.out GE192.out GE193.out GE199.out) hb); (try clear hb); (try clear hb2); (try clear hk); (try clear hi); obtain ⟨hcz40_0, hcz40_1, hcz40_2, hfz40_0, hfz40_1, hfz40_2⟩ := blk_all3 BK199.out; obtain ⟨hcz41_0, hcz41_1, hcz41_2, hfz41_0, hfz41_1, hfz41_2⟩ := blk_all3 BK193.out))
      refine bodyPost_ret (results_ct rfl _ _ gb193 24 #[.int .i64 t194, .int .i64 t195, .slice Ao36 t196.length co36] (0, 0) _ rfl (ap_ BK193.out) Try.underlying24 rfl (by kernel_rfl)) rfl ?_
      exact ⟨_, by first | rfl | (simp [errW_none, errW_some] <;> rfl) | (simp [*, errW_none, errW_some] <;> rfl), rt3_ HO198.out BK193.out, zb3_ HB.out GE192.out GE193.out GE199.out⟩
  · replace c5 := Bool.eq_false_iff.mpr c5
    subst c5
    have H1 : (some (t194, t195, t196, false)) = some (r1, r2, r3, r4) := by rw [if_neg (show ¬ (false = true) by decide)] at H; exact H
    clear H
    have H := H1
    clear H1
    simp only [Option.some.injEq, Prod.mk.injEq] at H
    obtain ⟨rfl, rfl, rfl, rfl⟩ := H
    go_enter Try.func27, Try.ntmps27
    go_wp2_with (first | ((with_reducible refine gate_dst (N := 2) rfl ?_); refine box_event ?hg (N := 2) ?hd (cs := #[.int .i64 a0_0, .int .i64 a0_1, .slice A0_2 l0_2.length c0_2]) (t := 24) ?hr ?_; (case hd => rfl); (case hg => rfl); (case hr => first | (go_simp; done) | (go_simp; rfl)); intro gb192 hg w42 hbox hb; have n0_ := As_ (below_step (zb0_ HB.out) hb); have n1_ := As_ (hbox); have n2_ := As_ ((sb_ hg (zb0_ HB.out) : w.heap.size ≤ gb192)); have n3_ := As_ ((sb_ hg (zb0_ HB.out) : w.heap.size ≤ gb192)); clear HB; have HB := n0_; have BK192 := n1_; have GW192 := n2_; have GE192 := n3_; clear n0_ n1_ n2_ n3_ hb hbox hg) | ((with_reducible refine gate_dst (N := 4) rfl ?_); refine box_event ?hg (N := 4) ?hd (cs := #[.int .i64 0, .int .i64 0, .slice none 0 0]) (t := 24) ?hr ?_; (case hd => rfl); (case hg => rfl); (case hr => first | (go_simp; done) | (go_simp; rfl)); intro gb193 hg w43 hbox hb; have n0_ := As_ (blk_below (g := gb192) (o := .cells #[.int .i64 a0_0, .int .i64 a0_1, .slice A0_2 l0_2.length c0_2] 24 (0, 0)) (ak_ BK192.out) hb); have n1_ := As_ (below_step (zb1_ HB.out GE192.out) hb); have n2_ := As_ (hbox); have n3_ := As_ ((sb_ hg (zb1_ HB.out GE192.out) : w.heap.size ≤ gb193)); have n4_ := As_ ((sb_ hg (zb1_ HB.out GE192.out) : w.heap.size ≤ gb193)); have n5_ := As_ ((nl_ hg BK192.out : gb192 ≠ gb193)); have n6_ := As_ ((ng_ hg BK192.out : gb193 ≠ gb192)); clear BK192 HB; have BK192 := n0_; have HB := n1_; have BK193 := n2_; have GW193 := n3_; have GE193 := n4_; have NB192_193 := n5_; have NB193_192 := n6_; clear n0_ n1_ n2_ n3_ n4_ n5_ n6_ hb hbox hg; have hnb44 := NB192_193.out; have hnc44 := NB193_192.out; obtain ⟨hcz45_0, hcz45_1, hcz45_2, hfz45_0, hfz45_1, hfz45_2⟩ := blk_all3 BK192.out) | ((with_reducible refine gate_callee (f := 49) rfl ?_); refine goesL_ (some 10) rfl rfl Try.func49 (by kernel_rfl) rfl #[.agg #[.int .i64 a0_0, .int .i64 a0_1, .slice A0_2 l0_2.length c0_2]] rfl tm_ ?_; (with_reducible refine (impl_copyFlow.calls a0_0 a0_1 _ _ l0_2 t194 t195 t196 _ ?side1 ?side2 A3.out).mono ?_); (case side1 => repeat (first | exact (Kd.C_below HR0_2.out HB.out) | (with_reducible first | apply cA_ | apply cN_ | apply cD_))); (case side2 => exact HC0_2.out); rintro e w46 ⟨v197, rfl, ho0, hb⟩; refine ⟨_, rfl, ?_⟩; have HO198 := As_ (Kd.R_lower ho0 (below_size (zb2_ HB.out GE192.out GE193.out))); replace BK192 := As_ (blk_below (g := gb192) (o := .cells #[.int .i64 a0_0, .int .i64 a0_1, .slice A0_2 l0_2.length c0_2] 24 (0, 0)) (ak_ BK192.out) hb); replace BK193 := As_ (blk_below (g := gb193) (o := .cells #[.int .i64 0, .int .i64 0, .slice none 0 0] 24 (0, 0)) (ak_ BK193.out) hb); replace HB := As_ (below_step (zb2_ HB.out GE192.out GE193.out) hb); (try clear hb); (try clear hb2); (try clear hk); (try clear hi); (try clear ho0)) | ((with_reducible refine gate_dst (N := 6) rfl ?_); refine box_event ?hg (N := 6) ?hd (cs := #[.int .i64 0, .int .i64 0, .slice none 0 0]) (t := 24) ?hr ?_; (case hd => rfl); (case hg => rfl); (case hr => first | (go_simp; done) | (go_simp; rfl)); intro gb199 hg w47 hbox hb; have n0_ := As_ (Kd.R_below (rk_ HO198.out) hb); have n1_ := As_ (blk_below (g := gb192) (o := .cells #[.int .i64 a0_0, .int .i64 a0_1, .slice A0_2 l0_2.length c0_2] 24 (0, 0)) (ak_ BK192.out) hb); have n2_ := As_ (blk_below (g := gb193) (o := .cells #[.int .i64 0, .int .i64 0, .slice none 0 0] 24 (0, 0)) (ak_ BK193.out) hb); have n3_ := As_ (below_step (zb2_ HB.out GE192.out GE193.out) hb); have n4_ := As_ (hbox); have n5_ := As_ ((sb_ hg (zb2_ HB.out GE192.out GE193.out) : w.heap.size ≤ gb199)); have n6_ := As_ ((sb_ hg (zb2_ HB.out GE192.out GE193.out) : w.heap.size ≤ gb199)); have n7_ := As_ ((nl_ hg BK192.out : gb192 ≠ gb199)); have n8_ := As_ ((ng_ hg BK192.out : gb199 ≠ gb192)); have n9_ := As_ ((nl_ hg BK193.out : gb193 ≠ gb199)); have n10_ := As_ ((ng_ hg BK193.out : gb199 ≠ gb193)); clear HO198 BK192 BK193 HB; have HO198 := n0_; have BK192 := n1_; have BK193 := n2_; have HB := n3_; have BK199 := n4_; have GW199 := n5_; have GE199 := n6_; have NB192_199 := n7_; have NB199_192 := n8_; have NB193_199 := n9_; have NB199_193 := n10_; clear n0_ n1_ n2_ n3_ n4_ n5_ n6_ n7_ n8_ n9_ n10_ hb hbox hg; have hnb48 := NB199_192.out; have hnc48 := NB192_199.out; have hnb49 := NB199_193.out; have hnc49 := NB193_199.out; obtain ⟨hcz50_0, hcz50_1, hcz50_2, hfz50_0, hfz50_1, hfz50_2⟩ := blk_all3 BK199.out; obtain ⟨Ao51, co51, eo51⟩ := Kd.R_slice HO198.out; subst eo51) | ((with_reducible refine gate_callee (f := 50) rfl ?_); refine goesL_ (some 13) rfl rfl Try.func50 (by kernel_rfl) rfl #[.pointer (some ⟨gb192, 0, none⟩), .int .i64 a1] rfl tm_ ?_; (with_reducible refine (impl_Flow_lane.calls k gb192 a0_0 a0_1 A0_2 c0_2 l0_2 a1 t200 false _ ?side1 ?side2 ?side3 A4.out).mono ?_); (case side1 => (with_reducible repeat (first | apply kN_ | apply kD_ | apply kA_)); refine blk_far ?_ NB192_199.out _; (with_reducible repeat (first | apply kN_ | apply kD_ | apply kA_)); refine blk_far ?_ NB192_199.out _; (with_reducible repeat (first | apply kN_ | apply kD_ | apply kA_)); refine blk_far ?_ NB192_199.out _; (with_reducible repeat (first | apply kN_ | apply kD_ | apply kA_)); exact BK192.out); (case side2 => exact Kd.C_below HR0_2.out (zb3_ HB.out GE192.out GE193.out GE199.out)); (case side3 => exact HC0_2.out); rintro e w52 ⟨rfl, hb⟩; refine ⟨_, rfl, ?_⟩; replace HO198 := As_ (Kd.R_below (rf3_ HO198.out BK199.out) hb); replace BK192 := As_ (blk_below (g := gb192) (o := .cells #[.int .i64 a0_0, .int .i64 a0_1, .slice A0_2 l0_2.length c0_2] 24 (0, 0)) (af_ NB192_199.out BK192.out) hb); replace BK193 := As_ (blk_below (g := gb193) (o := .cells #[.int .i64 0, .int .i64 0, .slice none 0 0] 24 (0, 0)) (af_ NB193_199.out BK193.out) hb); replace BK199 := As_ (blk_below (g := gb199) (o := .cells #[.int .i64 t194, .int .i64 t195, .slice Ao51 t196.length co51] 24 (0, 0)) (ap_ BK199.out) hb); replace HB := As_ (below_step (zb3_ HB.out GE192.out GE193.out GE199.out) hb); (try clear hb); (try clear hb2); (try clear hk); (try clear hi); obtain ⟨hcz53_0, hcz53_1, hcz53_2, hfz53_0, hfz53_1, hfz53_2⟩ := blk_all3 BK199.out; obtain ⟨hcz54_0, hcz54_1, hcz54_2, hfz54_0, hfz54_1, hfz54_2⟩ := blk_all3 BK193.out))
    refine bodyPost_ret (results_ct rfl _ _ gb193 24 #[.int .i64 t194, .int .i64 t195, .slice Ao51 t196.length co51] (0, 0) _ rfl (ap_ BK193.out) Try.underlying24 rfl (by kernel_rfl)) rfl ?_
    exact ⟨_, by first | rfl | (simp [errW_none, errW_some] <;> rfl) | (simp [*, errW_none, errW_some] <;> rfl), rt3_ HO198.out BK193.out, zb3_ HB.out GE192.out GE193.out GE199.out⟩

/-! ### laws_big: function 32 -/
def laws_big.f (l0 : List Int) : Option (Bool) := some (decide ((l0.length : Int) > 1048576))
set_option maxHeartbeats 8000000 in
set_option maxRecDepth 100000 in
theorem laws_big.calls (A0 : Option Addr) (c0 : Nat) (l0 : List Int) (r : Bool) (w : World) (hr0 : Kd.C (Kd.int .u8) w A0 l0.length l0) (hc0 : l0.length ≤ c0) (h : laws_big.f l0 = some r) :
    Calls Try.prog 32 #[.slice A0 l0.length c0] w fun e w' => e = .returned (.bool r) ∧ Drawn0 w w' := by
  have HR0 := Aside0.mk hr0
  have HC0 := Aside0.mk hc0
  clear hr0 hc0
  have H : (some (decide ((l0.length : Int) > 1048576))) = some r := h
  clear h
  obtain rfl := Option.some.inj H
  go_enter Try.func32, Try.ntmps32
  go_wp2
  go_ret
  exact ⟨by first | rfl | (simp; done) | (simp [*]; done), by repeat (first | exact Drawn0.refl _ | apply Drawn0.step)⟩

/-! ### spec_l10At: function 46 -/
def spec_l10At.l0 : Nat → Int → Int → Int → Int → List (S48) → Option (Int)
  | 0, _, _, _, _, _ => none
  | k + 1, x1, x5, x207000, x207001, x207002 => if x5 < (x207002.length : Int) then (if 0 ≤ x5 then (if ((rd_T48 x207002 x5).f0) = x1 then (some x5) else (spec_l10At.l0 k x1 (wrap64 (x5 + 1)) x207000 x207001 x207002)) else (none)) else (some (-1))
def spec_l10At.f (k : Nat) (a0_0 : Int) (a0_1 : Int) (l0_2 : List (S48)) (a1 : Int) : Option (Int) := spec_l10At.l0 k a1 0 a0_0 a0_1 l0_2
theorem spec_l10At.mono_l : ∀ k, (∀ y0 y1 y2 y3 y4, LeO (spec_l10At.l0 k y0 y1 y2 y3 y4) (spec_l10At.l0 (k + 1) y0 y1 y2 y3 y4))
  | 0 => fun _ _ _ _ _ r h => by simp [spec_l10At.l0] at h
  | k + 1 => by
    have ih0 := spec_l10At.mono_l k
    · intro y0 y1 y2 y3 y4
      unfold spec_l10At.l0
      repeat' first
      | (with_reducible exact ih0 _ _ _ _ _)
      | (with_reducible exact LeO.refl _)
      | (with_reducible exact LeO.none _)
      | (with_reducible refine LeO.ite ?_ ?_)
      | (with_reducible refine LeO.bind ?_ (fun _ => ?_))
      | exact ih0 _ _ _ _ _
      | exact LeO.none _
      | refine LeO.ite ?_ ?_
      | refine LeO.bind ?_ (fun _ => ?_)
theorem spec_l10At.mono : ∀ a0 a1 a2 a3 k, LeO (spec_l10At.f k a0 a1 a2 a3) (spec_l10At.f (k + 1) a0 a1 a2 a3) := by
  intro a0 a1 a2 a3 k
  have ih0 := spec_l10At.mono_l k
  unfold spec_l10At.f
  repeat' first
      | (with_reducible exact ih0 _ _ _ _ _)
      | (with_reducible exact LeO.refl _)
      | (with_reducible exact LeO.none _)
      | (with_reducible refine LeO.ite ?_ ?_)
      | (with_reducible refine LeO.bind ?_ (fun _ => ?_))
      | exact ih0 _ _ _ _ _
      | exact LeO.none _
      | refine LeO.ite ?_ ?_
      | refine LeO.bind ?_ (fun _ => ?_)
set_option maxHeartbeats 8000000 in
set_option maxRecDepth 100000 in
theorem spec_l10At.calls (k : Nat) (a0_0 : Int) (a0_1 : Int) (A0_2 : Option Addr) (c0_2 : Nat) (l0_2 : List (S48)) (a1 : Int) (r : Int) (w : World) (hr0_2 : Kd.C k48 w A0_2 l0_2.length l0_2) (hc0_2 : l0_2.length ≤ c0_2) (h : spec_l10At.f k a0_0 a0_1 l0_2 a1 = some r) :
    Calls Try.prog 46 #[.agg #[.int .i64 a0_0, .int .i64 a0_1, .slice A0_2 l0_2.length c0_2], .int .i64 a1] w fun e w' => e = .returned (.int .i64 r) ∧ Below w.heap.size w w' := by
  have hu24 := Try.underlying24
  have HR0_2 := Aside0.mk hr0_2
  have HC0_2 := Aside0.mk hc0_2
  clear hr0_2 hc0_2
  have HB := As_ (Below.refl w.heap.size w)
  have H : (spec_l10At.l0 k a1 0 a0_0 a0_1 l0_2) = some r := h
  clear h
  have H' := Aside0.mk H
  clear H
  go_enter Try.func46, Try.ntmps46
  go_wp2_with (first | ((with_reducible refine gate_dst (N := 2) rfl ?_); refine box_event ?hg (N := 2) ?hd (cs := #[.int .i64 a0_0, .int .i64 a0_1, .slice A0_2 l0_2.length c0_2]) (t := 24) ?hr ?_; (case hd => rfl); (case hg => rfl); (case hr => first | (go_simp; done) | (go_simp; rfl)); intro gb206 hg w3 hbox hb; have n0_ := As_ (below_step (zb0_ HB.out) hb); have n1_ := As_ (hbox); have n2_ := As_ ((sb_ hg (zb0_ HB.out) : w.heap.size ≤ gb206)); have n3_ := As_ ((sb_ hg (zb0_ HB.out) : w.heap.size ≤ gb206)); clear HB; have HB := n0_; have BK206 := n1_; have GW206 := n2_; have GE206 := n3_; clear n0_ n1_ n2_ n3_ hb hbox hg))
  go_loopg [5] k (fun kq v5 w' => ∃ (x5_1 : Int), v5 = .int .i64 x5_1 ∧ Aside0 (spec_l10At.l0 kq a1 x5_1 a0_0 a0_1 l0_2 = some r) ∧ Aside0 (kq ≤ k) ∧ Aside0 (w'.heap[gb206]? = some (.cells #[.int .i64 a0_0, .int .i64 a0_1, (.slice A0_2 l0_2.length c0_2)] 24 (0, 0))) ∧ Aside0 (Below w.heap.size w w'))
  case atStart => exact ⟨(0), (by first | rfl | (simp; done) | (simp [*]; done)), H', ⟨Nat.le_refl _⟩, ⟨ak_ BK206.out⟩, ⟨zb1_ HB.out GE206.out⟩⟩
  case round =>
    clear H'
    try clear p2
    obtain ⟨x5_1, rfl, HA, HK1, BK206, HB⟩ := hrel
    cases gk with
    | zero => exact absurd HA.out (by simp [spec_l10At.l0])
    | succ k1 =>
      have H := HA.out
      clear HA
      simp only [spec_l10At.l0] at H
      by_cases c4 : x5_1 < (l0_2.length : Int)
      · rw [if_pos c4] at H
        have c4b0 : decide (x5_1 < (l0_2.length : Int)) = true := decide_eq_true c4
        clear c4
        by_cases c5 : 0 ≤ x5_1
        · rw [if_pos c5] at H
          have c5b0 : decide (0 ≤ x5_1) = true := decide_eq_true c5
          clear c5
          by_cases c6 : ((rd_T48 l0_2 x5_1).f0) = a1
          · rw [if_pos c6] at H
            have c6b0 : (((rd_T48 l0_2 x5_1).f0) == a1) = true := beq_iff_eq.mpr c6
            have c6b1 : (((rd_T48 l0_2 x5_1).f0) != a1) = false := bne_eq_false_iff_eq.mpr c6
            clear c6
            obtain rfl := Option.some.inj H
            obtain ⟨hcz7_0, hcz7_1, hcz7_2, hfz7_0, hfz7_1, hfz7_2⟩ := blk_all3 BK206.out
            have p207 : 0 ≤ (x5_1 : Int) := of_decide_eq_true sm_
            have q207 : x5_1 < (l0_2.length : Int) := of_decide_eq_true sm_
            obtain ⟨ad207, e207, hx207_0, hx207_1⟩ := at_T48 HR0_2.out x5_1 p207 q207
            cases e207
            replace hx207_0 := (HB.out.cell (World.block_lt_of_cell? w _ hx207_0)).trans hx207_0
            replace hx207_1 := (HB.out.cell (World.block_lt_of_cell? w _ hx207_1)).trans hx207_1
            replace p207 := eq_true p207
            replace q207 := eq_true q207
            go_wp2
            go_ret
            exact ⟨by first | rfl | (simp [errW_none, errW_some] <;> rfl) | (simp [*, errW_none, errW_some] <;> rfl), zb1_ HB.out GE206.out⟩
          · rw [if_neg c6] at H
            have c6b0 : (((rd_T48 l0_2 x5_1).f0) == a1) = false := beq_eq_false_iff_ne.mpr c6
            have c6b1 : (((rd_T48 l0_2 x5_1).f0) != a1) = true := bne_iff_ne.mpr c6
            have H' := Aside0.mk H
            clear H
            obtain ⟨hcz8_0, hcz8_1, hcz8_2, hfz8_0, hfz8_1, hfz8_2⟩ := blk_all3 BK206.out
            have p207 : 0 ≤ (x5_1 : Int) := of_decide_eq_true sm_
            have q207 : x5_1 < (l0_2.length : Int) := of_decide_eq_true sm_
            obtain ⟨ad207, e207, hx207_0, hx207_1⟩ := at_T48 HR0_2.out x5_1 p207 q207
            cases e207
            replace hx207_0 := (HB.out.cell (World.block_lt_of_cell? w _ hx207_0)).trans hx207_0
            replace hx207_1 := (HB.out.cell (World.block_lt_of_cell? w _ hx207_1)).trans hx207_1
            replace p207 := eq_true p207
            replace q207 := eq_true q207
            go_wp2
            go_roundg k1
            case measure => have := HK1.out; omega
            case rel => exact ⟨(wrap64 (x5_1 + 1)), (by first | rfl | (simp; done) | (simp [*]; done)), H', ⟨by have := HK1.out; omega⟩, ⟨ak_ BK206.out⟩, ⟨zb1_ HB.out GE206.out⟩⟩
        · rw [if_neg c5] at H
          exact absurd H (by simp)
      · rw [if_neg c4] at H
        have c4b0 : decide (x5_1 < (l0_2.length : Int)) = false := decide_eq_false c4
        clear c4
        obtain rfl := Option.some.inj H
        obtain ⟨hcz9_0, hcz9_1, hcz9_2, hfz9_0, hfz9_1, hfz9_2⟩ := blk_all3 BK206.out
        go_wp2
        go_ret
        exact ⟨by first | rfl | (simp [errW_none, errW_some] <;> rfl) | (simp [*, errW_none, errW_some] <;> rfl), zb1_ HB.out GE206.out⟩

end Go.Proofs.Ytejnagdmfooemaa.QFnLanes
