/- Contracts of functions of the translation, each with its pure function; printed by a program of this session (wip/pr.py) over the kit's print; no condition of its own. -/
import Derived.Test.YtejnagdmfooemaaQFnLanesx0
import Derived.Test.YtejnagdmfooemaaQFnLanesx1
import Derived.Test.YtejnagdmfooemaaQFnLanesx2
namespace Go.Proofs.Ytejnagdmfooemaa.QFnLanes
open Go.RowKit Go.Proofs.YtejnagdmfooemaaW.PrintWords Go.Proofs.YtejnagdmfooemaaW.PrintLast Go.Proofs.YtejnagdmfooemaaW.PrintMore
attribute [local go_sem] max2_int min2_int max_two min_two max_three min_three max_four min_four   -- for this text's walks alone
set_option linter.unusedVariables false
set_option linter.unusedSimpArgs false

/-! ### spec_NewInit: function 24 -/
def spec_NewInit.l0 : Nat → Int → Int → Int → Int → List (S48) → Int → Int → List (S48) → Option (Int × Int × (List (S48)) × Bool)
  | 0, _, _, _, _, _, _, _, _ => none
  | k + 1, x1, x7, x138000, x138001, x138002, x145000, x145001, x145002 => if x7 < (x145002.length : Int) then ((spec_l1In.f x1 0 2147483647).bind fun t145 => (if t145 = true then (if 0 ≤ x7 then (spec_NewInit.l0 k x1 (wrap64 (x7 + 1)) x138000 x138001 x138002 x145000 x145001 (x145002.set (x7 : Int).toNat (⟨(rd_T48 x145002 x7).f0, wrap64 ((wrap64 (((rd_T48 x145002 x7).f1) + x1)) - x138001)⟩ : S48))) else (none)) else ((spec_l10Ends.f k x138000 x138001 x138002 x145000 x145001 x145002 true).bind fun bt148 => (some (bt148.1, bt148.2.1, bt148.2.2.1, bt148.2.2.2))))) else ((spec_l10Ends.f k x138000 x138001 x138002 x145000 x145001 x145002 true).bind fun bt154 => (some (bt154.1, bt154.2.1, bt154.2.2.1, bt154.2.2.2)))
def spec_NewInit.f (k : Nat) (a0_0 : Int) (a0_1 : Int) (l0_2 : List (S48)) (a1 : Int) : Option (Int × Int × (List (S48)) × Bool) := (spec_l10Copy.f a0_0 a0_1 l0_2).bind fun bt139 => (spec_NewInit.l0 k a1 0 a0_0 a0_1 l0_2 bt139.1 a1 bt139.2.2)
theorem spec_NewInit.mono_l : ∀ k, (∀ y0 y1 y2 y3 y4 y5 y6 y7, LeO (spec_NewInit.l0 k y0 y1 y2 y3 y4 y5 y6 y7) (spec_NewInit.l0 (k + 1) y0 y1 y2 y3 y4 y5 y6 y7))
  | 0 => fun _ _ _ _ _ _ _ _ r h => by simp [spec_NewInit.l0] at h
  | k + 1 => by
    have ih0 := spec_NewInit.mono_l k
    · intro y0 y1 y2 y3 y4 y5 y6 y7
      unfold spec_NewInit.l0
      repeat' first
      | (with_reducible exact ih0 _ _ _ _ _ _ _ _)
      | (with_reducible exact spec_l10Ends.mono _ _ _ _ _ _ _ _)
      | (with_reducible exact LeO.refl _)
      | (with_reducible exact LeO.none _)
      | (with_reducible refine LeO.ite ?_ ?_)
      | (with_reducible refine LeO.bind ?_ (fun _ => ?_))
      | exact ih0 _ _ _ _ _ _ _ _
      | exact spec_l10Ends.mono _ _ _ _ _ _ _ _
      | exact LeO.none _
      | refine LeO.ite ?_ ?_
      | refine LeO.bind ?_ (fun _ => ?_)
theorem spec_NewInit.mono : ∀ a0 a1 a2 a3 k, LeO (spec_NewInit.f k a0 a1 a2 a3) (spec_NewInit.f (k + 1) a0 a1 a2 a3) := by
  intro a0 a1 a2 a3 k
  have ih0 := spec_NewInit.mono_l k
  unfold spec_NewInit.f
  repeat' first
      | (with_reducible exact ih0 _ _ _ _ _ _ _ _)
      | (with_reducible exact spec_l10Ends.mono _ _ _ _ _ _ _ _)
      | (with_reducible exact LeO.refl _)
      | (with_reducible exact LeO.none _)
      | (with_reducible refine LeO.ite ?_ ?_)
      | (with_reducible refine LeO.bind ?_ (fun _ => ?_))
      | exact ih0 _ _ _ _ _ _ _ _
      | exact spec_l10Ends.mono _ _ _ _ _ _ _ _
      | exact LeO.none _
      | refine LeO.ite ?_ ?_
      | refine LeO.bind ?_ (fun _ => ?_)
def spec_NewInit.T6 : Bool × List (List Nat × List Nat) := (true, [([], []), ([0], [0]), ([], []), ([], []), ([3], [3]), ([], []), ([4, 5], [4, 5]), ([6], [6]), ([7], [7]), ([], []), ([8, 9], [8, 9]), ([], []), ([11], [11]), ([10, 12], [10, 12]), ([1, 2, 0, 1, 2, 3, 4, 5, 6, 7, 8, 9, 10, 11, 12, 13], [1, 2]), ([14, 0, 1, 2, 3, 4, 5, 6, 7, 8, 9, 10, 11, 12, 13], [14]), ([15, 13, 0, 1, 2, 3, 4, 5, 6, 7, 8, 9, 10, 11, 12, 13], [13, 15])])
def spec_NewInit.B6 : List Nat := [0, 1, 0, 0, 8, 0, 56, 120, 248, 0, 1016, 0, 2048, 8184, 16383, 32767, 65535]
theorem spec_NewInit.tab6 : rtab .any (opsOf Try.f24 6) = spec_NewInit.T6 := by kernel_rfl
theorem spec_NewInit.bits6 : waitsOk spec_NewInit.T6.2 spec_NewInit.B6 = true := by kernel_rfl
set_option maxHeartbeats 8000000 in
set_option maxRecDepth 100000 in
theorem spec_NewInit.calls (k : Nat) (a0_0 : Int) (a0_1 : Int) (A0_2 : Option Addr) (c0_2 : Nat) (l0_2 : List (S48)) (a1 : Int) (r1 : Int) (r2 : Int) (r3 : List (S48)) (r4 : Bool) (w : World) (hr0_2 : Kd.C k48 w A0_2 l0_2.length l0_2) (hc0_2 : l0_2.length ≤ c0_2) (h : spec_NewInit.f k a0_0 a0_1 l0_2 a1 = some (r1, r2, r3, r4)) :
    Calls Try.prog 24 #[.agg #[.int .i64 a0_0, .int .i64 a0_1, .slice A0_2 l0_2.length c0_2], .int .i64 a1] w fun e w' => ∃ v2_ : Value, e = .returned (.tuple #[.agg #[.int .i64 r1, .int .i64 r2, v2_], .bool r4]) ∧ Kd.R k48 48 w' w.heap.size (fun _ => True) v2_ r3 ∧ Below w.heap.size w w' := by
  have hu24 := Try.underlying24
  have HR0_2 := Aside0.mk hr0_2
  have HC0_2 := Aside0.mk hc0_2
  clear hr0_2 hc0_2
  have HB := As_ (Below.refl w.heap.size w)
  have H : ((spec_l10Copy.f a0_0 a0_1 l0_2).bind fun bt139 => (spec_NewInit.l0 k a1 0 a0_0 a0_1 l0_2 bt139.1 a1 bt139.2.2)) = some (r1, r2, r3, r4) := h
  clear h
  replace H := Option.bind_eq_some_iff.mp H
  obtain ⟨⟨t139, t140, t141⟩, A30, H⟩ := H
  replace H : (spec_NewInit.l0 k a1 0 a0_0 a0_1 l0_2 t139 a1 t141) = some (r1, r2, r3, r4) := H
  have A3 := Aside0.mk A30
  clear A30
  have H' := Aside0.mk H
  clear H
  go_enter Try.func24, Try.ntmps24
  go_wp2_with (first | ((with_reducible refine gate_dst (N := 2) rfl ?_); refine box_event ?hg (N := 2) ?hd (cs := #[.int .i64 a0_0, .int .i64 a0_1, .slice A0_2 l0_2.length c0_2]) (t := 24) ?hr ?_; (case hd => rfl); (case hg => rfl); (case hr => first | (go_simp; done) | (go_simp; rfl)); intro gb137 hg w4 hbox hb; have n0_ := As_ (below_step (zb0_ HB.out) hb); have n1_ := As_ (hbox); have n2_ := As_ ((sb_ hg (zb0_ HB.out) : w.heap.size ≤ gb137)); have n3_ := As_ ((sb_ hg (zb0_ HB.out) : w.heap.size ≤ gb137)); clear HB; have HB := n0_; have BK137 := n1_; have GW137 := n2_; have GE137 := n3_; clear n0_ n1_ n2_ n3_ hb hbox hg) | ((with_reducible refine gate_dst (N := 4) rfl ?_); refine box_event ?hg (N := 4) ?hd (cs := #[.int .i64 0, .int .i64 0, .slice none 0 0]) (t := 24) ?hr ?_; (case hd => rfl); (case hg => rfl); (case hr => first | (go_simp; done) | (go_simp; rfl)); intro gb138 hg w5 hbox hb; have n0_ := As_ (blk_below (g := gb137) (o := .cells #[.int .i64 a0_0, .int .i64 a0_1, .slice A0_2 l0_2.length c0_2] 24 (0, 0)) (ak_ BK137.out) hb); have n1_ := As_ (below_step (zb1_ HB.out GE137.out) hb); have n2_ := As_ (hbox); have n3_ := As_ ((sb_ hg (zb1_ HB.out GE137.out) : w.heap.size ≤ gb138)); have n4_ := As_ ((sb_ hg (zb1_ HB.out GE137.out) : w.heap.size ≤ gb138)); have n5_ := As_ ((nl_ hg BK137.out : gb137 ≠ gb138)); have n6_ := As_ ((ng_ hg BK137.out : gb138 ≠ gb137)); clear BK137 HB; have BK137 := n0_; have HB := n1_; have BK138 := n2_; have GW138 := n3_; have GE138 := n4_; have NB137_138 := n5_; have NB138_137 := n6_; clear n0_ n1_ n2_ n3_ n4_ n5_ n6_ hb hbox hg; have hnb6 := NB137_138.out; have hnc6 := NB138_137.out; obtain ⟨hcz7_0, hcz7_1, hcz7_2, hfz7_0, hfz7_1, hfz7_2⟩ := blk_all3 BK137.out) | ((with_reducible refine gate_callee (f := 47) rfl ?_); refine goesL_ (some 9) rfl rfl Try.func47 (by kernel_rfl) rfl #[.agg #[.int .i64 a0_0, .int .i64 a0_1, .slice A0_2 l0_2.length c0_2]] rfl tm_ ?_; (with_reducible refine (spec_l10Copy.calls a0_0 a0_1 _ _ l0_2 t139 t140 t141 _ ?side1 ?side2 A3.out).mono ?_); (case side1 => repeat (first | exact (Kd.C_below HR0_2.out HB.out) | (with_reducible first | apply cA_ | apply cN_ | apply cD_))); (case side2 => exact HC0_2.out); rintro e w8 ⟨v142, rfl, ho0, hb⟩; refine ⟨_, rfl, ?_⟩; have HO143 := As_ (Kd.R_lower ho0 (below_size (zb2_ HB.out GE137.out GE138.out))); replace BK137 := As_ (blk_below (g := gb137) (o := .cells #[.int .i64 a0_0, .int .i64 a0_1, .slice A0_2 l0_2.length c0_2] 24 (0, 0)) (ak_ BK137.out) hb); replace BK138 := As_ (blk_below (g := gb138) (o := .cells #[.int .i64 0, .int .i64 0, .slice none 0 0] 24 (0, 0)) (ak_ BK138.out) hb); replace HB := As_ (below_step (zb2_ HB.out GE137.out GE138.out) hb); (try clear hb); (try clear hb2); (try clear hk); (try clear hi); (try clear ho0)) | ((with_reducible refine gate_dst (N := 6) rfl ?_); refine box_event ?hg (N := 6) ?hd (cs := #[.int .i64 0, .int .i64 0, .slice none 0 0]) (t := 24) ?hr ?_; (case hd => rfl); (case hg => rfl); (case hr => first | (go_simp; done) | (go_simp; rfl)); intro gb144 hg w9 hbox hb; have n0_ := As_ (Kd.R_below (rk_ HO143.out) hb); have n1_ := As_ (blk_below (g := gb137) (o := .cells #[.int .i64 a0_0, .int .i64 a0_1, .slice A0_2 l0_2.length c0_2] 24 (0, 0)) (ak_ BK137.out) hb); have n2_ := As_ (blk_below (g := gb138) (o := .cells #[.int .i64 0, .int .i64 0, .slice none 0 0] 24 (0, 0)) (ak_ BK138.out) hb); have n3_ := As_ (below_step (zb2_ HB.out GE137.out GE138.out) hb); have n4_ := As_ (hbox); have n5_ := As_ ((sb_ hg (zb2_ HB.out GE137.out GE138.out) : w.heap.size ≤ gb144)); have n6_ := As_ ((sb_ hg (zb2_ HB.out GE137.out GE138.out) : w.heap.size ≤ gb144)); have n7_ := As_ ((nl_ hg BK137.out : gb137 ≠ gb144)); have n8_ := As_ ((ng_ hg BK137.out : gb144 ≠ gb137)); have n9_ := As_ ((nl_ hg BK138.out : gb138 ≠ gb144)); have n10_ := As_ ((ng_ hg BK138.out : gb144 ≠ gb138)); clear HO143 BK137 BK138 HB; have HO143 := n0_; have BK137 := n1_; have BK138 := n2_; have HB := n3_; have BK144 := n4_; have GW144 := n5_; have GE144 := n6_; have NB137_144 := n7_; have NB144_137 := n8_; have NB138_144 := n9_; have NB144_138 := n10_; clear n0_ n1_ n2_ n3_ n4_ n5_ n6_ n7_ n8_ n9_ n10_ hb hbox hg; have hnb10 := NB144_137.out; have hnc10 := NB137_144.out; have hnb11 := NB144_138.out; have hnc11 := NB138_144.out; obtain ⟨hcz12_0, hcz12_1, hcz12_2, hfz12_0, hfz12_1, hfz12_2⟩ := blk_all3 BK144.out; obtain ⟨Ao13, co13, eo13⟩ := Kd.R_slice HO143.out; subst eo13))
  go_loopg [7] k (fun kq v7 w' => ∃ (x7_1 : Int) (x145002_1 : List (S48)) (u145002 : Value), v7 = .int .i64 x7_1 ∧ Aside0 (spec_NewInit.l0 kq a1 x7_1 a0_0 a0_1 l0_2 t139 a1 x145002_1 = some (r1, r2, r3, r4)) ∧ Aside0 (kq ≤ k) ∧ Aside0 (Kd.R k48 48 w' w.heap.size (fun _ => True) u145002 x145002_1) ∧ Aside0 (w'.heap[gb137]? = some (.cells #[.int .i64 a0_0, .int .i64 a0_1, (.slice A0_2 l0_2.length c0_2)] 24 (0, 0))) ∧ Aside0 (w'.heap[gb138]? = some (.cells #[.int .i64 0, .int .i64 0, (.slice none 0 0)] 24 (0, 0))) ∧ Aside0 (w'.heap[gb144]? = some (.cells #[.int .i64 t139, .int .i64 a1, u145002] 24 (0, 0))) ∧ Aside0 (Below w.heap.size w w'))
  case atStart => exact ⟨(0), (t141), (.slice Ao13 t141.length co13), (by first | rfl | (simp; done) | (simp [*]; done)), H', ⟨Nat.le_refl _⟩, ⟨rt4_ HO143.out BK144.out⟩, ⟨af_ NB137_144.out BK137.out⟩, ⟨af_ NB138_144.out BK138.out⟩, ⟨ap_ BK144.out⟩, ⟨zb3_ HB.out GE137.out GE138.out GE144.out⟩⟩
  case round =>
    clear H'
    try clear c1
    try clear c2
    try clear p2
    try clear c4
    try clear c6
    try clear c10
    try clear c11
    try clear hcz12_0
    try clear hcz12_1
    try clear hcz12_2
    try clear hcz7_0
    try clear hcz7_1
    try clear hcz7_2
    try clear hfz12_0
    try clear hfz12_1
    try clear hfz12_2
    try clear hfz7_0
    try clear hfz7_1
    try clear hfz7_2
    obtain ⟨x7_1, x145002_1, u145002, rfl, HA, HK1, HO_145002, BK137, BK138, BK144, HB⟩ := hrel
    cases gk with
    | zero => exact absurd HA.out (by simp [spec_NewInit.l0])
    | succ k1 =>
      have H := HA.out
      clear HA
      simp only [spec_NewInit.l0] at H
      by_cases c14 : x7_1 < (x145002_1.length : Int)
      · rw [if_pos c14] at H
        have c14b0 : decide (x7_1 < (x145002_1.length : Int)) = true := decide_eq_true c14
        clear c14
        replace H := Option.bind_eq_some_iff.mp H
        obtain ⟨t145, A150, H⟩ := H
        replace H : (if t145 = true then (if 0 ≤ x7_1 then (spec_NewInit.l0 k1 a1 (wrap64 (x7_1 + 1)) a0_0 a0_1 l0_2 t139 a1 (x145002_1.set (x7_1 : Int).toNat (⟨(rd_T48 x145002_1 x7_1).f0, wrap64 ((wrap64 (((rd_T48 x145002_1 x7_1).f1) + a1)) - a0_1)⟩ : S48))) else (none)) else ((spec_l10Ends.f k1 a0_0 a0_1 l0_2 t139 a1 x145002_1 true).bind fun bt148 => (some (bt148.1, bt148.2.1, bt148.2.2.1, bt148.2.2.2)))) = some (r1, r2, r3, r4) := H
        have A15 := Aside0.mk A150
        clear A150
        by_cases c16 : t145 = true
        · subst c16
          have H1 : (if 0 ≤ x7_1 then (spec_NewInit.l0 k1 a1 (wrap64 (x7_1 + 1)) a0_0 a0_1 l0_2 t139 a1 (x145002_1.set (x7_1 : Int).toNat (⟨(rd_T48 x145002_1 x7_1).f0, wrap64 ((wrap64 (((rd_T48 x145002_1 x7_1).f1) + a1)) - a0_1)⟩ : S48))) else (none)) = some (r1, r2, r3, r4) := by rw [if_pos rfl] at H; exact H
          clear H
          have H := H1
          clear H1
          by_cases c17 : 0 ≤ x7_1
          · rw [if_pos c17] at H
            have c17b0 : decide (0 ≤ x7_1) = true := decide_eq_true c17
            clear c17
            obtain ⟨y147, hy147⟩ : ∃ y_ : List (S48), y_ = (x145002_1.set (x7_1 : Int).toNat (⟨(rd_T48 x145002_1 x7_1).f0, wrap64 ((wrap64 (((rd_T48 x145002_1 x7_1).f1) + a1)) - a0_1)⟩ : S48)) := ⟨_, rfl⟩
            replace H : (spec_NewInit.l0 k1 a1 (wrap64 (x7_1 + 1)) a0_0 a0_1 l0_2 t139 a1 y147) = some (r1, r2, r3, r4) := by first | (rw [hy147]; with_reducible exact H) | (have H2_ := (Option.bind_some _ _).symm.trans H; rw [hy147]; with_reducible exact H2_) | (have H2_ := (Option.bind_some _ _).symm.trans H; with_reducible exact H2_) | with_reducible exact H | (rw [hy147]; exact H) | exact H
            have Ny147 := Aside0.mk hy147
            clear hy147
            have H' := Aside0.mk H
            clear H
            have hnb19 := NB144_137.out
            have hnc19 := NB137_144.out
            have hnb20 := NB144_138.out
            have hnc20 := NB138_144.out
            obtain ⟨hcz21_0, hcz21_1, hcz21_2, hfz21_0, hfz21_1, hfz21_2⟩ := blk_all3 BK144.out
            obtain ⟨Ao22, co22, eo22⟩ := Kd.R_slice HO_145002.out
            subst eo22
            try go_wp2_with (first | (go_at_call 38; (with_reducible refine (spec_l1In.calls a1 0 2147483647 true _ A15.out).mono ?_); rintro e w' ⟨rfl, ⟨nd, rfl⟩⟩; (try (rw [drewN_self wr]; generalize hq_ : World.drewN wr _ = wr; replace HO_145002 : Aside0 (Kd.R k48 48 wr w.heap.size (fun _ => True) (.slice Ao22 x145002_1.length co22) x145002_1) := ⟨by rw [← hq_]; exact (rk_ HO_145002.out)⟩; replace BK137 : Aside0 (wr.heap[gb137]? = some (.cells #[.int .i64 a0_0, .int .i64 a0_1, .slice A0_2 l0_2.length c0_2] 24 (0, 0))) := ⟨by rw [← hq_]; exact (ak_ BK137.out)⟩; replace BK138 : Aside0 (wr.heap[gb138]? = some (.cells #[.int .i64 0, .int .i64 0, .slice none 0 0] 24 (0, 0))) := ⟨by rw [← hq_]; exact (ak_ BK138.out)⟩; replace BK144 : Aside0 (wr.heap[gb144]? = some (.cells #[.int .i64 t139, .int .i64 a1, .slice Ao22 x145002_1.length co22] 24 (0, 0))) := ⟨by rw [← hq_]; exact (ak_ BK144.out)⟩; replace HB : Aside0 (Below w.heap.size w wr) := ⟨by rw [← hq_]; exact (zb3_ HB.out GE137.out GE138.out GE144.out)⟩; clear hq_; obtain ⟨hcz21_0, hcz21_1, hcz21_2, hfz21_0, hfz21_1, hfz21_2⟩ := blk_all3 BK144.out))))
            replace HO_145002 := As_ (Kd.R_drew HO_145002.out)
            replace BK137 := As_ (blk_drew BK137.out)
            replace BK138 := As_ (blk_drew BK138.out)
            replace BK144 := As_ (blk_drew BK144.out)
            replace HB := As_ (below_drew1 HB.out)
            have p146 : 0 ≤ (x7_1 : Int) := of_decide_eq_true sm_
            have q146 : x7_1 < (x145002_1.length : Int) := of_decide_eq_true sm_
            obtain ⟨ad146, e146, hx146_0, hx146_1⟩ := at_T48 (Kd.R_reads' HO_145002.out).2.2 x7_1 p146 q146
            cases e146
            replace p146 := eq_true p146
            replace q146 := eq_true q146
            have p18 : 0 ≤ (x7_1 : Int) := of_decide_eq_true sm_
            have q18 : (x7_1 : Int) < ((x145002_1.length : Int) : Int) := of_decide_eq_true sm_
            obtain ⟨go18, co18, eo18, gb18, gl18, cl18, HG18⟩ := Kd.R_form HO_145002.out (by omega)
            (first | cases eo18 | (injection eo18 with ea_ en_ ec_; (first | subst ea_ | (injection ea_ with ea_; subst ea_)); subst ec_; clear en_))
            have GB18 := Aside0.mk gb18
            have GG18 := Aside0.mk HG18
            clear gb18 gl18 HG18
            (first | simp only [add_plain] at hx146_0 | skip)
            (first | simp only [add_plain] at hx146_1 | skip)
            obtain ⟨ce18, hcl18, hM18, hcc18, hfr18⟩ := Kd.R_elem HO_145002.out z48 (x7_1 : Int) p18 q18
            obtain rfl := k48_openM hM18
            have hx18_0 : World.cell? _ ⟨go18, (x7_1 : Int).toNat * 2, none⟩ = some (.int .i64 ((rd_T48 x145002_1 x7_1).f0)) := hcc18 0 _ rfl
            have hx18_1 : World.cell? _ ⟨go18, (x7_1 : Int).toNat * 2 + 1, none⟩ = some (.int .i64 ((rd_T48 x145002_1 x7_1).f1)) := hcc18 1 _ rfl
            have hf18_0 : World.frozen? _ ⟨go18, (x7_1 : Int).toNat * 2, none⟩ = false := hfr18 0
            have hf18_1 : World.frozen? _ ⟨go18, (x7_1 : Int).toNat * 2 + 1, none⟩ = false := hfr18 1
            clear hcl18 hcc18 hfr18 hM18
            replace p18 := eq_true p18
            replace q18 := eq_true q18
            obtain ⟨ce24, hcl24, hM24, hcc24, hfr24⟩ := Kd.R_elem HO_145002.out z48 (x7_1 : Int) (of_decide_eq_true sm_) (by have h_ : (x7_1 : Int) < ((x145002_1.length : Int) : Int) := of_decide_eq_true sm_; first | exact h_ | (have e_ := (Kd.R_reads' HO_145002.out).1; omega) | simpa using h_)
            obtain rfl := k48_openM hM24
            have HP24 := (Kd.R_seg HO_145002.out (x7_1 : Int) (of_decide_eq_true sm_) (by have h_ : (x7_1 : Int) < ((x145002_1.length : Int) : Int) := of_decide_eq_true sm_; first | exact h_ | (have e_ := (Kd.R_reads' HO_145002.out).1; omega) | simpa using h_) (seg := [.int .i64 (wrap64 ((wrap64 (((rd_T48 x145002_1 x7_1).f1) + a1)) - a0_1))]) (j := 1) hcl24 hcc24 (show 2 ≤ 2 from by decide) (x' := (⟨(rd_T48 x145002_1 x7_1).f0, wrap64 ((wrap64 (((rd_T48 x145002_1 x7_1).f1) + a1)) - a0_1)⟩ : S48)) (k48_mkM _ _ _ (⟨(rd_T48 x145002_1 x7_1).f0, wrap64 ((wrap64 (((rd_T48 x145002_1 x7_1).f1) + a1)) - a0_1)⟩ : S48) ) (fun _ hk => hk)).1
            rw [← Ny147.out] at HP24
            have HQ24 := Aside0.mk HP24
            clear hcl24 hcc24 hfr24 hM24 HP24
            refine start_ (n := 17) (S := fun w' => w'.cell? ⟨gb144, 0, none⟩ = some (.int .i64 t139) ∧ w'.cell? ⟨gb144, 1, none⟩ = some (.int .i64 a1) ∧ w'.cell? ⟨gb144, 2, none⟩ = some (.slice (some ⟨go18, 0, none⟩) x145002_1.length co22) ∧ w'.cell? ⟨gb137, 0, none⟩ = some (.int .i64 a0_0) ∧ w'.cell? ⟨gb137, 1, none⟩ = some (.int .i64 a0_1) ∧ w'.cell? ⟨gb137, 2, none⟩ = some (.slice A0_2 l0_2.length c0_2) ∧ w'.cell? ⟨go18, ((x7_1).toNat * 2), none⟩ = some (.int .i64 ((rd_T48 x145002_1 x7_1).f0)) ∧ w'.cell? ⟨go18, ((x7_1).toNat * 2) + 1, none⟩ = some (.int .i64 ((rd_T48 x145002_1 x7_1).f1))) (ds := [16]) #[false, false, false, false, false, false, false, false, false, false, false, false, false, false, false, false, false] (by kernel_rfl) rfl rfl ⟨(blk_cell BK144.out 0).trans rfl, (blk_cell BK144.out 1).trans rfl, (blk_cell BK144.out 2).trans rfl, (blk_cell BK137.out 0).trans rfl, (blk_cell BK137.out 1).trans rfl, (blk_cell BK137.out 2).trans rfl, hx146_0, hx146_1⟩ (fun hHeld => ?_); refine with_tabW spec_NewInit.tab6 spec_NewInit.bits6 (fun HT_ HW_ => ?_)
            generalize wr.drew = w23 at HO_145002 BK137 BK138 BK144 HB GG18 HQ24 hf18_0 hf18_1 hx146_0 hx146_1 hx18_0 hx18_1 hHeld ⊢
            refine pure_ (i := 0) (N := some 23) (v := ?_) (a' := ?_) #[true, false, false, false, false, false, false, false, false, false, false, false, false, false, false, false, false] rfl rfl (any_of HT_.out (by kernel_rfl)) (fun _ _ _ h => h) (Or.inl ⟨by rfl, ?_⟩) ?_ ?_
            rotate_left
            · intro w'
              go_simp
              with_reducible rfl
            rotate_left
            · simp only [Act.put, List.setIfInBounds_toArray, List.set_cons_zero, List.set_cons_succ, i64_w, i32_w]
              rfl
            refine pure_ (i := 2) (N := some 25) (v := ?_) (a' := ?_) #[true, false, true, false, false, false, false, false, false, false, false, false, false, false, false, false, false] rfl rfl (any_of HT_.out (by kernel_rfl)) (fun _ _ _ h => h) (Or.inl ⟨by rfl, ?_⟩) ?_ ?_
            rotate_left
            · intro w'
              go_simp
              with_reducible rfl
            rotate_left
            · simp only [Act.put, List.setIfInBounds_toArray, List.set_cons_zero, List.set_cons_succ, i64_w, i32_w]
              rfl
            refine pure_ (i := 3) (N := some 26) (v := ?_) (a' := ?_) #[true, false, true, true, false, false, false, false, false, false, false, false, false, false, false, false, false] rfl rfl (any_of HT_.out (by kernel_rfl)) (fun _ _ _ h => h) (Or.inl ⟨by rfl, ?_⟩) ?_ ?_
            rotate_left
            · intro w'
              go_simp
              with_reducible rfl
            rotate_left
            · simp only [Act.put, List.setIfInBounds_toArray, List.set_cons_zero, List.set_cons_succ, i64_w, i32_w]
              rfl
            refine pure_ (i := 5) (N := some 28) (v := ?_) (a' := ?_) #[true, false, true, true, false, true, false, false, false, false, false, false, false, false, false, false, false] rfl rfl (any_of HT_.out (by kernel_rfl)) (fun _ _ _ h => h) (Or.inl ⟨by rfl, ?_⟩) ?_ ?_
            rotate_left
            · intro w'
              go_simp
              with_reducible rfl
            rotate_left
            · simp only [Act.put, List.setIfInBounds_toArray, List.set_cons_zero, List.set_cons_succ, i64_w, i32_w]
              rfl
            refine pure_ (i := 9) (N := some 32) (v := ?_) (a' := ?_) #[true, false, true, true, false, true, false, false, false, true, false, false, false, false, false, false, false] rfl rfl (any_of HT_.out (by kernel_rfl)) (fun _ _ _ h => h) (Or.inl ⟨by rfl, ?_⟩) ?_ ?_
            rotate_left
            · intro w'
              go_simp
              with_reducible rfl
            rotate_left
            · simp only [Act.put, List.setIfInBounds_toArray, List.set_cons_zero, List.set_cons_succ, i64_w, i32_w]
              rfl
            refine pure_ (i := 11) (N := some 34) (v := ?_) (a' := ?_) #[true, false, true, true, false, true, false, false, false, true, false, true, false, false, false, false, false] rfl rfl (any_of HT_.out (by kernel_rfl)) (fun _ _ _ h => h) (Or.inl ⟨by rfl, ?_⟩) ?_ ?_
            rotate_left
            · intro w'
              go_simp
              with_reducible rfl
            rotate_left
            · simp only [Act.put, List.setIfInBounds_toArray, List.set_cons_zero, List.set_cons_succ, i64_w, i32_w]
              rfl
            refine take_ (i := 1) (N := some 24) (v := ?_) (a' := ?_) #[true, true, true, true, false, true, false, false, false, true, false, true, false, false, false, false, false] rfl rfl (take_ofW HT_.out HW_.out (by kernel_rfl)) (fun _ _ _ h => h) (Or.inl ⟨by rfl, ?_⟩) hHeld ?_ ?_
            rotate_left
            · rintro w' ⟨s0, s1, s2, s3, s4, s5, s6, s7⟩
              go_simp
              with_reducible rfl
            rotate_left
            · simp only [Act.put, List.setIfInBounds_toArray, List.set_cons_zero, List.set_cons_succ, i64_w, i32_w]
              rfl
            refine take_ (i := 4) (N := some 27) (v := ?_) (a' := ?_) #[true, true, true, true, true, true, false, false, false, true, false, true, false, false, false, false, false] rfl rfl (take_ofW HT_.out HW_.out (by kernel_rfl)) (fun _ _ _ h => h) (Or.inl ⟨by rfl, ?_⟩) hHeld ?_ ?_
            rotate_left
            · rintro w' ⟨s0, s1, s2, s3, s4, s5, s6, s7⟩
              go_simp
              with_reducible rfl
            rotate_left
            · simp only [Act.put, List.setIfInBounds_toArray, List.set_cons_zero, List.set_cons_succ, i64_w, i32_w]
              rfl
            refine pure_ (i := 6) (N := some 29) (v := ?_) (a' := ?_) #[true, true, true, true, true, true, true, false, false, true, false, true, false, false, false, false, false] rfl rfl (any_of HT_.out (by kernel_rfl)) (fun _ _ _ h => h) (Or.inl ⟨by rfl, ?_⟩) ?_ ?_
            rotate_left
            · intro w'
              go_simp
              with_reducible rfl
            rotate_left
            · simp only [Act.put, List.setIfInBounds_toArray, List.set_cons_zero, List.set_cons_succ, i64_w, i32_w]
              rfl
            refine pure_ (i := 7) (N := some 30) (v := ?_) (a' := ?_) #[true, true, true, true, true, true, true, true, false, true, false, true, false, false, false, false, false] rfl rfl (any_of HT_.out (by kernel_rfl)) (fun _ _ _ h => h) (Or.inl ⟨by rfl, ?_⟩) ?_ ?_
            rotate_left
            · intro w'
              go_simp
              with_reducible rfl
            rotate_left
            · simp only [Act.put, List.setIfInBounds_toArray, List.set_cons_zero, List.set_cons_succ, i64_w, i32_w]
              rfl
            refine take_ (i := 8) (N := some 31) (v := ?_) (a' := ?_) #[true, true, true, true, true, true, true, true, true, true, false, true, false, false, false, false, false] rfl rfl (take_ofW HT_.out HW_.out (by kernel_rfl)) (fun _ _ _ h => h) (Or.inl ⟨by rfl, ?_⟩) hHeld ?_ ?_
            rotate_left
            · rintro w' ⟨s0, s1, s2, s3, s4, s5, s6, s7⟩
              go_simp
              with_reducible rfl
            rotate_left
            · simp only [Act.put, List.setIfInBounds_toArray, List.set_cons_zero, List.set_cons_succ, i64_w, i32_w]
              rfl
            refine pure_ (i := 10) (N := some 33) (v := ?_) (a' := ?_) #[true, true, true, true, true, true, true, true, true, true, true, true, false, false, false, false, false] rfl rfl (any_of HT_.out (by kernel_rfl)) (fun _ _ _ h => h) (Or.inl ⟨by rfl, ?_⟩) ?_ ?_
            rotate_left
            · intro w'
              go_simp
              with_reducible rfl
            rotate_left
            · simp only [Act.put, List.setIfInBounds_toArray, List.set_cons_zero, List.set_cons_succ, i64_w, i32_w]
              rfl
            refine take_ (i := 12) (N := some 35) (v := ?_) (a' := ?_) #[true, true, true, true, true, true, true, true, true, true, true, true, true, false, false, false, false] rfl rfl (take_ofW HT_.out HW_.out (by kernel_rfl)) (fun _ _ _ h => h) (Or.inl ⟨by rfl, ?_⟩) hHeld ?_ ?_
            rotate_left
            · rintro w' ⟨s0, s1, s2, s3, s4, s5, s6, s7⟩
              go_simp
              with_reducible rfl
            rotate_left
            · simp only [Act.put, List.setIfInBounds_toArray, List.set_cons_zero, List.set_cons_succ, i64_w, i32_w]
              rfl
            refine pure_ (i := 13) (N := some 36) (v := ?_) (a' := ?_) #[true, true, true, true, true, true, true, true, true, true, true, true, true, true, false, false, false] rfl rfl (any_of HT_.out (by kernel_rfl)) (fun _ _ _ h => h) (Or.inl ⟨by rfl, ?_⟩) ?_ ?_
            rotate_left
            · intro w'
              go_simp
              with_reducible rfl
            rotate_left
            · simp only [Act.put, List.setIfInBounds_toArray, List.set_cons_zero, List.set_cons_succ, i64_w, i32_w]
              rfl
            refine pure_ (i := 14) (N := some 37) (v := ?_) (a' := ?_) #[true, true, true, true, true, true, true, true, true, true, true, true, true, true, true, false, false] rfl rfl (any_of HT_.out (by kernel_rfl)) (fun _ _ _ h => h) (Or.inl ⟨by rfl, ?_⟩) ?_ ?_
            rotate_left
            · intro w'
              go_simp
              with_reducible rfl
            rotate_left
            · simp only [Act.put, List.setIfInBounds_toArray, List.set_cons_zero, List.set_cons_succ, i64_w, i32_w]
              rfl
            refine pure_ (i := 15) (N := some 38) (v := ?_) (a' := ?_) #[true, true, true, true, true, true, true, true, true, true, true, true, true, true, true, true, false] rfl rfl (any_of HT_.out (by kernel_rfl)) (fun _ _ _ h => h) (Or.inl ⟨by rfl, ?_⟩) ?_ ?_
            rotate_left
            · intro w'
              go_simp
              with_reducible rfl
            rotate_left
            · simp only [Act.put, List.setIfInBounds_toArray, List.set_cons_zero, List.set_cons_succ, i64_w, i32_w]
              rfl
            refine last_ (i := 16) (N := none) #[true, true, true, true, true, true, true, true, true, true, true, true, true, true, true, true, true] rfl rfl (one_of HT_.out (by kernel_rfl)) (by decide) (fun K hK => ?_)
            refine skip_ (w1 := ?_) (by rfl) rfl ?_ ?_
            rotate_left
            · go_simp
              rfl
            refine hK.out _ _ ?_
            clear hK K
            refine done_ (done_of HT_.out (by kernel_rfl)) ?_
            try go_wp2
            go_roundg k1
            case measure => have := HK1.out; omega
            case rel => exact ⟨(wrap64 (x7_1 + 1)), (y147), (.slice (some ⟨go18, 0, none⟩) x145002_1.length co22), (by first | rfl | (simp; done) | (simp [*]; done)), H', ⟨by have := HK1.out; omega⟩, ⟨rk_ HQ24.out⟩, ⟨by (with_reducible repeat (first | apply kN_ | apply kD_ | apply kA_)); refine blk_far ?_ (by have h_ := Kd.R_ne HO_145002.out BK137.out (by decide); intro e_; exact h_ (by rw [e_]; rfl)) _; (with_reducible repeat (first | apply kN_ | apply kD_ | apply kA_)); exact BK137.out⟩, ⟨by (with_reducible repeat (first | apply kN_ | apply kD_ | apply kA_)); refine blk_far ?_ (by have h_ := Kd.R_ne HO_145002.out BK138.out (by decide); intro e_; exact h_ (by rw [e_]; rfl)) _; (with_reducible repeat (first | apply kN_ | apply kD_ | apply kA_)); exact BK138.out⟩, ⟨by (with_reducible repeat (first | apply kN_ | apply kD_ | apply kA_)); refine blk_far ?_ (by have h_ := Kd.R_ne HO_145002.out BK144.out (by decide); intro e_; exact h_ (by rw [e_]; rfl)) _; (with_reducible repeat (first | apply kN_ | apply kD_ | apply kA_)); exact BK144.out⟩, ⟨zb4_ HB.out GB18.out GE137.out GE138.out GE144.out⟩⟩
          · rw [if_neg c17] at H
            exact absurd H (by simp)
        · replace c16 := Bool.eq_false_iff.mpr c16
          subst c16
          have H1 : ((spec_l10Ends.f k1 a0_0 a0_1 l0_2 t139 a1 x145002_1 true).bind fun bt148 => (some (bt148.1, bt148.2.1, bt148.2.2.1, bt148.2.2.2))) = some (r1, r2, r3, r4) := by rw [if_neg (show ¬ (false = true) by decide)] at H; exact H
          clear H
          have H := H1
          clear H1
          replace H := Option.bind_eq_some_iff.mp H
          obtain ⟨⟨t148, t149, t150, t153⟩, A250, H⟩ := H
          replace H : (some (t148, t149, t150, t153)) = some (r1, r2, r3, r4) := H
          have A25 := Aside0.mk A250
          clear A250
          simp only [Option.some.injEq, Prod.mk.injEq] at H
          obtain ⟨rfl, rfl, rfl, rfl⟩ := H
          have hnb26 := NB144_137.out
          have hnc26 := NB137_144.out
          have hnb27 := NB144_138.out
          have hnc27 := NB138_144.out
          obtain ⟨hcz28_0, hcz28_1, hcz28_2, hfz28_0, hfz28_1, hfz28_2⟩ := blk_all3 BK144.out
          obtain ⟨Ao29, co29, eo29⟩ := Kd.R_slice HO_145002.out
          subst eo29
          go_wp2_with (first | (go_at_call 38; (with_reducible refine (spec_l1In.calls a1 0 2147483647 false _ A15.out).mono ?_); rintro e w' ⟨rfl, ⟨nd, rfl⟩⟩; (try (rw [drewN_self wr]; generalize hq_ : World.drewN wr _ = wr; replace HO_145002 : Aside0 (Kd.R k48 48 wr w.heap.size (fun _ => True) (.slice Ao29 x145002_1.length co29) x145002_1) := ⟨by rw [← hq_]; exact (rk_ HO_145002.out)⟩; replace BK137 : Aside0 (wr.heap[gb137]? = some (.cells #[.int .i64 a0_0, .int .i64 a0_1, .slice A0_2 l0_2.length c0_2] 24 (0, 0))) := ⟨by rw [← hq_]; exact (ak_ BK137.out)⟩; replace BK138 : Aside0 (wr.heap[gb138]? = some (.cells #[.int .i64 0, .int .i64 0, .slice none 0 0] 24 (0, 0))) := ⟨by rw [← hq_]; exact (ak_ BK138.out)⟩; replace BK144 : Aside0 (wr.heap[gb144]? = some (.cells #[.int .i64 t139, .int .i64 a1, .slice Ao29 x145002_1.length co29] 24 (0, 0))) := ⟨by rw [← hq_]; exact (ak_ BK144.out)⟩; replace HB : Aside0 (Below w.heap.size w wr) := ⟨by rw [← hq_]; exact (zb3_ HB.out GE137.out GE138.out GE144.out)⟩; clear hq_; obtain ⟨hcz28_0, hcz28_1, hcz28_2, hfz28_0, hfz28_1, hfz28_2⟩ := blk_all3 BK144.out)); have hnb30 := NB137_138.out; have hnc30 := NB138_137.out; obtain ⟨hcz31_0, hcz31_1, hcz31_2, hfz31_0, hfz31_1, hfz31_2⟩ := blk_all3 BK137.out) | ((with_reducible refine gate_callee (f := 48) rfl ?_); refine goesL_ (some 41) rfl rfl Try.func48 (by kernel_rfl) rfl #[.agg #[.int .i64 a0_0, .int .i64 a0_1, .slice A0_2 l0_2.length c0_2], .agg #[.int .i64 t139, .int .i64 a1, .slice Ao29 x145002_1.length co29], .bool true] rfl tm_ ?_; (with_reducible refine (spec_l10Ends.calls k1 a0_0 a0_1 _ _ l0_2 t139 a1 (fun k_ => some k_ = (.slice Ao29 x145002_1.length co29 : Value).ownBlock) (.slice Ao29 x145002_1.length co29) x145002_1 true t148 t149 t150 t153 w _ ?side1 ?side2 ?side3 ?side4 A25.out).mono ?_); (case side1 => repeat (first | (with_reducible first | exact HB.out | apply bA_ | apply bN_ | apply bD_ | refine bS_ ?_ GE137.out | refine bS_ ?_ GE138.out | refine bS_ ?_ GE144.out) | exact HB.out)); (case side2 => exact Kd.C_kept_came k48_heap HR0_2.out (zb3_ HB.out GE137.out GE138.out GE144.out) (fun k_ hs_ => (fun e_ => Kd.R_base HO_145002.out k_ e_.symm) hs_)); (case side3 => exact HC0_2.out); (case side4 => exact Kd.R_tight rfl HO_145002.out); rintro e w32 ⟨v151, rfl, ho0, hb, hkp⟩; refine ⟨_, rfl, ?_⟩; replace BK137 := As_ (blk_kept (ak_ BK137.out) hkp (fun hs_ => (fun e_ => (Kd.R_ne HO_145002.out BK137.out (by decide)) e_) hs_)); replace BK138 := As_ (blk_kept (ak_ BK138.out) hkp (fun hs_ => (fun e_ => (Kd.R_ne HO_145002.out BK138.out (by decide)) e_) hs_)); replace BK144 := As_ (blk_kept (ak_ BK144.out) hkp (fun hs_ => (fun e_ => (Kd.R_ne HO_145002.out BK144.out (by decide)) e_) hs_)); have HO152 := As_ (Kd.R_mono (ok' := fun k_ => True) ho0 (fun k_ hk_ => trivial)); replace HB := As_ (hb); clear HO_145002; (try clear hb); (try clear hkp); (try clear ho0); obtain ⟨hcz33_0, hcz33_1, hcz33_2, hfz33_0, hfz33_1, hfz33_2⟩ := blk_all3 BK138.out; obtain ⟨Ao34, co34, eo34⟩ := Kd.R_slice HO152.out; subst eo34))
          refine bodyPost_ret (results_ct rfl _ _ gb138 24 #[.int .i64 t148, .int .i64 t149, .slice Ao34 t150.length co34] (0, 0) _ rfl (ap_ BK138.out) Try.underlying24 rfl (by kernel_rfl)) rfl ?_
          exact ⟨_, by first | rfl | (simp [errW_none, errW_some] <;> rfl) | (simp [*, errW_none, errW_some] <;> rfl), rt3_ HO152.out BK138.out, zb3_ HB.out GE137.out GE138.out GE144.out⟩
      · rw [if_neg c14] at H
        have c14b0 : decide (x7_1 < (x145002_1.length : Int)) = false := decide_eq_false c14
        clear c14
        replace H := Option.bind_eq_some_iff.mp H
        obtain ⟨⟨t154, t155, t156, t159⟩, A350, H⟩ := H
        replace H : (some (t154, t155, t156, t159)) = some (r1, r2, r3, r4) := H
        have A35 := Aside0.mk A350
        clear A350
        simp only [Option.some.injEq, Prod.mk.injEq] at H
        obtain ⟨rfl, rfl, rfl, rfl⟩ := H
        have hnb36 := NB144_137.out
        have hnc36 := NB137_144.out
        have hnb37 := NB144_138.out
        have hnc37 := NB138_144.out
        obtain ⟨hcz38_0, hcz38_1, hcz38_2, hfz38_0, hfz38_1, hfz38_2⟩ := blk_all3 BK144.out
        obtain ⟨Ao39, co39, eo39⟩ := Kd.R_slice HO_145002.out
        subst eo39
        have hnb40 := NB137_138.out
        have hnc40 := NB138_137.out
        obtain ⟨hcz41_0, hcz41_1, hcz41_2, hfz41_0, hfz41_1, hfz41_2⟩ := blk_all3 BK137.out
        go_wp2_with (first | ((with_reducible refine gate_callee (f := 48) rfl ?_); refine goesL_ (some 41) rfl rfl Try.func48 (by kernel_rfl) rfl #[.agg #[.int .i64 a0_0, .int .i64 a0_1, .slice A0_2 l0_2.length c0_2], .agg #[.int .i64 t139, .int .i64 a1, .slice Ao39 x145002_1.length co39], .bool true] rfl tm_ ?_; (with_reducible refine (spec_l10Ends.calls k1 a0_0 a0_1 _ _ l0_2 t139 a1 (fun k_ => some k_ = (.slice Ao39 x145002_1.length co39 : Value).ownBlock) (.slice Ao39 x145002_1.length co39) x145002_1 true t154 t155 t156 t159 w _ ?side1 ?side2 ?side3 ?side4 A35.out).mono ?_); (case side1 => repeat (first | (with_reducible first | exact HB.out | apply bA_ | apply bN_ | apply bD_ | refine bS_ ?_ GE137.out | refine bS_ ?_ GE138.out | refine bS_ ?_ GE144.out) | exact HB.out)); (case side2 => exact Kd.C_kept_came k48_heap HR0_2.out (zb3_ HB.out GE137.out GE138.out GE144.out) (fun k_ hs_ => (fun e_ => Kd.R_base HO_145002.out k_ e_.symm) hs_)); (case side3 => exact HC0_2.out); (case side4 => exact Kd.R_tight rfl HO_145002.out); rintro e w42 ⟨v157, rfl, ho0, hb, hkp⟩; refine ⟨_, rfl, ?_⟩; replace BK137 := As_ (blk_kept (ak_ BK137.out) hkp (fun hs_ => (fun e_ => (Kd.R_ne HO_145002.out BK137.out (by decide)) e_) hs_)); replace BK138 := As_ (blk_kept (ak_ BK138.out) hkp (fun hs_ => (fun e_ => (Kd.R_ne HO_145002.out BK138.out (by decide)) e_) hs_)); replace BK144 := As_ (blk_kept (ak_ BK144.out) hkp (fun hs_ => (fun e_ => (Kd.R_ne HO_145002.out BK144.out (by decide)) e_) hs_)); have HO158 := As_ (Kd.R_mono (ok' := fun k_ => True) ho0 (fun k_ hk_ => trivial)); replace HB := As_ (hb); clear HO_145002; (try clear hb); (try clear hkp); (try clear ho0); obtain ⟨hcz43_0, hcz43_1, hcz43_2, hfz43_0, hfz43_1, hfz43_2⟩ := blk_all3 BK138.out; obtain ⟨Ao44, co44, eo44⟩ := Kd.R_slice HO158.out; subst eo44))
        refine bodyPost_ret (results_ct rfl _ _ gb138 24 #[.int .i64 t154, .int .i64 t155, .slice Ao44 t156.length co44] (0, 0) _ rfl (ap_ BK138.out) Try.underlying24 rfl (by kernel_rfl)) rfl ?_
        exact ⟨_, by first | rfl | (simp [errW_none, errW_some] <;> rfl) | (simp [*, errW_none, errW_some] <;> rfl), rt3_ HO158.out BK138.out, zb3_ HB.out GE137.out GE138.out GE144.out⟩

/-! ### slices_Clone_Lane: function 58 -/
def slices_Clone_Lane.f (l0 : List (S48)) : Option ((List (S48))) := (some (([] : List (S48)) : List (S48))).bind fun y160 => (if y160.length + l0.length < 8796093022208 then (some (y160 ++ l0)) else (none))
set_option maxHeartbeats 8000000 in
set_option maxRecDepth 100000 in
theorem slices_Clone_Lane.calls (A0 : Option Addr) (c0 : Nat) (l0 : List (S48)) (r : List (S48)) (w : World) (hr0 : Kd.C k48 w A0 l0.length l0) (hc0 : l0.length ≤ c0) (h : slices_Clone_Lane.f l0 = some r) :
    Calls Try.prog 58 #[.slice A0 l0.length c0] w fun e w' => ∃ v0_ : Value, e = .returned (v0_) ∧ Kd.R k48 48 w' w.heap.size (fun _ => True) v0_ r ∧ Below w.heap.size w w' := by
  cases A0 with
  | none =>
    have hl0 : l0 = [] := List.length_eq_zero_iff.mp (Nat.eq_zero_of_not_pos (fun h0 => by obtain ⟨ad, he, _⟩ := hr0.2.2 h0; cases he))
    subst hl0
    have heq := fun W => Lib.run_eql_slice_nil (P := Try.prog) W 22 48 none 0 c0 0 0 Try.underlying22
    clear hr0 hc0
    show Calls Try.prog 58 #[.slice none 0 c0] _ _
    obtain rfl : r = [] := by revert h; unfold slices_Clone_Lane.f; simp; try (intro h; exact h.symm)
    go_enter Try.func58, Try.ntmps58
    go_wp2
    go_ret
    exact ⟨_, rfl, Kd.R_nil _ _ _ _ _, Below.refl _ _⟩
  | some ad0 =>
    have heq := fun W => Lib.run_eql_slice_nil (P := Try.prog) W 22 48 (some ad0) l0.length c0 0 0 Try.underlying22
    have HR0 := Aside0.mk hr0
    have HC0 := Aside0.mk hc0
    clear hr0 hc0
    have HB := As_ (Below.refl w.heap.size w)
    have H : ((some (([] : List (S48)) : List (S48))).bind fun y160 => (if y160.length + l0.length < 8796093022208 then (some (y160 ++ l0)) else (none))) = some r := h
    clear h
    obtain ⟨y160, hy160⟩ : ∃ y_ : List (S48), y_ = (([] : List (S48))) := ⟨_, rfl⟩
    replace H : (if y160.length + l0.length < 8796093022208 then (some (y160 ++ l0)) else (none)) = some r := by first | (rw [hy160]; with_reducible exact H) | (have H2_ := (Option.bind_some _ _).symm.trans H; rw [hy160]; with_reducible exact H2_) | (have H2_ := (Option.bind_some _ _).symm.trans H; with_reducible exact H2_) | with_reducible exact H | (rw [hy160]; exact H) | exact H
    have Ny160 := Aside0.mk hy160
    clear hy160
    by_cases c2 : y160.length + l0.length < 8796093022208
    · rw [if_pos c2] at H
      have LMc2 := Aside0.mk c2
      clear c2
      obtain ⟨y163, hy163⟩ : ∃ y_ : List (S48), y_ = (y160 ++ l0) := ⟨_, rfl⟩
      replace H : (some y163) = some r := by first | (rw [hy163]; with_reducible exact H) | (have H2_ := (Option.bind_some _ _).symm.trans H; rw [hy163]; with_reducible exact H2_) | (have H2_ := (Option.bind_some _ _).symm.trans H; with_reducible exact H2_) | with_reducible exact H | (rw [hy163]; exact H) | exact H
      have Ny163 := Aside0.mk hy163
      clear hy163
      obtain rfl := Option.some.inj H
      go_enter Try.func58, Try.ntmps58
      go_wp2_with (first | ((with_reducible refine gate_dst (N := 5) rfl ?_); refine Kd.R_lit k48 _ 48 ?hg (N := 5) ?hd (xs := ([] : List (S48))) (inner := []) (ok := fun _ => True) (okp := fun _ => True) ?hr ?hp (fun _ hk => hk) trivial (Below.refl _ _) (Nat.le_refl _) (by simp) ?_; (case hd => rfl); (case hg => rfl); (case hr => first | (go_simp; done) | (go_simp; rfl)); (case hp => exact (Reps.none _ _)); intro v161 w3 ho4 hb hg_ hnew_; clear hg_ hnew_; (first | rw [← Ny160.out] at ho4 | (simp only [Int.reduceToNat] at ho4; rw [← Ny160.out] at ho4)); have n0_ := As_ (Kd.R_lower ho4 (below_size (zb0_ HB.out))); have n1_ := As_ (below_step (zb0_ HB.out) hb); clear HB; have HO162 := n0_; have HB := n1_; clear n0_ n1_ hb ho4) | ((with_reducible refine gate_builtin (b := .append) (xs := #[.tmp 5, .tmp 6]) rfl ?_); at_builtin; refine Kd.R_append_rows k48 (w0 := w) w.heap.size rfl (.tmp 5) (.tmp 6) 22 48 (.agg #[(.int .i64 0), (.int .i64 0)]) 16 rfl Try.underlying22 info48 rfl (by decide) (by omega) v161 y160 l0 _ _ _ (fun _ => True) (fun _ => False) rfl rfl ?aO ?aR (fun _ _ h => h) (fun _ h => h.elim) ?aF ?aB ?aS ?aL ?_; (case aR => repeat (first | exact (Kd.C_below HR0.out HB.out) | (with_reducible first | apply cA_ | apply cN_ | apply cD_))); (case aB => exact (zb0_ HB.out)); (case aF => exact (fun _ _ => trivial)); (case aO => exact (rk_ HO162.out)); (case aS => exact (below_size (zb0_ HB.out))); (case aL => have := LMc2.out; omega); intro v164 w5 ho hb hg hat; rw [← Ny163.out] at ho; have n0_ := As_ (hb); have n1_ := As_ (ho); clear HB HO162; have HB := n0_; have HO165 := n1_; clear n0_ n1_ ho hb hg hat))
      go_ret
      exact ⟨_, by first | rfl | (simp [errW_none, errW_some] <;> rfl) | (simp [*, errW_none, errW_some] <;> rfl), rk_ HO165.out, zb0_ HB.out⟩
    · rw [if_neg c2] at H
      exact absurd H (by simp)

/-! ### impl_copyFlow: function 49 -/
def impl_copyFlow.f (a0_0 : Int) (a0_1 : Int) (l0_2 : List (S48)) : Option (Int × Int × (List (S48))) := (slices_Clone_Lane.f l0_2).bind fun t168 => (some (a0_0, a0_1, t168))
set_option maxHeartbeats 8000000 in
set_option maxRecDepth 100000 in
theorem impl_copyFlow.calls (a0_0 : Int) (a0_1 : Int) (A0_2 : Option Addr) (c0_2 : Nat) (l0_2 : List (S48)) (r1 : Int) (r2 : Int) (r3 : List (S48)) (w : World) (hr0_2 : Kd.C k48 w A0_2 l0_2.length l0_2) (hc0_2 : l0_2.length ≤ c0_2) (h : impl_copyFlow.f a0_0 a0_1 l0_2 = some (r1, r2, r3)) :
    Calls Try.prog 49 #[.agg #[.int .i64 a0_0, .int .i64 a0_1, .slice A0_2 l0_2.length c0_2]] w fun e w' => ∃ v2_ : Value, e = .returned (.agg #[.int .i64 r1, .int .i64 r2, v2_]) ∧ Kd.R k48 48 w' w.heap.size (fun _ => True) v2_ r3 ∧ Below w.heap.size w w' := by
  have hu24 := Try.underlying24
  have HR0_2 := Aside0.mk hr0_2
  have HC0_2 := Aside0.mk hc0_2
  clear hr0_2 hc0_2
  have HB := As_ (Below.refl w.heap.size w)
  have H : ((slices_Clone_Lane.f l0_2).bind fun t168 => (some (a0_0, a0_1, t168))) = some (r1, r2, r3) := h
  clear h
  replace H := Option.bind_eq_some_iff.mp H
  obtain ⟨t168, A20, H⟩ := H
  replace H : (some (a0_0, a0_1, t168)) = some (r1, r2, r3) := H
  have A2 := Aside0.mk A20
  clear A20
  simp only [Option.some.injEq, Prod.mk.injEq] at H
  obtain ⟨rfl, rfl, rfl⟩ := H
  go_enter Try.func49, Try.ntmps49
  go_wp2_with (first | ((with_reducible refine gate_dst (N := 1) rfl ?_); refine box_event ?hg (N := 1) ?hd (cs := #[.int .i64 a0_0, .int .i64 a0_1, .slice A0_2 l0_2.length c0_2]) (t := 24) ?hr ?_; (case hd => rfl); (case hg => rfl); (case hr => first | (go_simp; done) | (go_simp; rfl)); intro gb166 hg w3 hbox hb; have n0_ := As_ (below_step (zb0_ HB.out) hb); have n1_ := As_ (hbox); have n2_ := As_ ((sb_ hg (zb0_ HB.out) : w.heap.size ≤ gb166)); have n3_ := As_ ((sb_ hg (zb0_ HB.out) : w.heap.size ≤ gb166)); clear HB; have HB := n0_; have BK166 := n1_; have GW166 := n2_; have GE166 := n3_; clear n0_ n1_ n2_ n3_ hb hbox hg) | ((with_reducible refine gate_dst (N := 2) rfl ?_); refine box_event ?hg (N := 2) ?hd (cs := #[.int .i64 0, .int .i64 0, .slice none 0 0]) (t := 24) ?hr ?_; (case hd => rfl); (case hg => rfl); (case hr => first | (go_simp; done) | (go_simp; rfl)); intro gb167 hg w4 hbox hb; have n0_ := As_ (blk_below (g := gb166) (o := .cells #[.int .i64 a0_0, .int .i64 a0_1, .slice A0_2 l0_2.length c0_2] 24 (0, 0)) (ak_ BK166.out) hb); have n1_ := As_ (below_step (zb1_ HB.out GE166.out) hb); have n2_ := As_ (hbox); have n3_ := As_ ((sb_ hg (zb1_ HB.out GE166.out) : w.heap.size ≤ gb167)); have n4_ := As_ ((sb_ hg (zb1_ HB.out GE166.out) : w.heap.size ≤ gb167)); have n5_ := As_ ((nl_ hg BK166.out : gb166 ≠ gb167)); have n6_ := As_ ((ng_ hg BK166.out : gb167 ≠ gb166)); clear BK166 HB; have BK166 := n0_; have HB := n1_; have BK167 := n2_; have GW167 := n3_; have GE167 := n4_; have NB166_167 := n5_; have NB167_166 := n6_; clear n0_ n1_ n2_ n3_ n4_ n5_ n6_ hb hbox hg; have hnb5 := NB166_167.out; have hnc5 := NB167_166.out; obtain ⟨hcz6_0, hcz6_1, hcz6_2, hfz6_0, hfz6_1, hfz6_2⟩ := blk_all3 BK166.out) | ((with_reducible refine gate_callee (f := 58) rfl ?_); refine goesL_ (some 5) rfl rfl Try.func58 (by kernel_rfl) rfl #[.slice A0_2 l0_2.length c0_2] rfl tm_ ?_; (with_reducible refine (slices_Clone_Lane.calls _ _ l0_2 t168 _ ?side1 ?side2 A2.out).mono ?_); (case side1 => repeat (first | exact (Kd.C_below HR0_2.out HB.out) | (with_reducible first | apply cA_ | apply cN_ | apply cD_))); (case side2 => exact HC0_2.out); rintro e w7 ⟨v169, rfl, ho0, hb⟩; refine ⟨_, rfl, ?_⟩; have HO170 := As_ (Kd.R_lower ho0 (below_size (zb2_ HB.out GE166.out GE167.out))); replace BK166 := As_ (blk_below (g := gb166) (o := .cells #[.int .i64 a0_0, .int .i64 a0_1, .slice A0_2 l0_2.length c0_2] 24 (0, 0)) (ak_ BK166.out) hb); replace BK167 := As_ (blk_below (g := gb167) (o := .cells #[.int .i64 0, .int .i64 0, .slice none 0 0] 24 (0, 0)) (ak_ BK167.out) hb); replace HB := As_ (below_step (zb2_ HB.out GE166.out GE167.out) hb); (try clear hb); (try clear hb2); (try clear hk); (try clear hi); (try clear ho0); obtain ⟨Ao8, co8, eo8⟩ := Kd.R_slice HO170.out; subst eo8; obtain ⟨hcz9_0, hcz9_1, hcz9_2, hfz9_0, hfz9_1, hfz9_2⟩ := blk_all3 BK166.out; obtain ⟨hcz10_0, hcz10_1, hcz10_2, hfz10_0, hfz10_1, hfz10_2⟩ := blk_all3 BK167.out))
  refine bodyPost_ret (results_cell_row rfl _ _ gb167 24 #[.int .i64 a0_0, .int .i64 a0_1, .slice Ao8 t168.length co8] (0, 0) _ rfl (ag_ NB167_166.out BK167.out) Try.underlying24 rfl (by kernel_rfl)) rfl ?_
  exact ⟨_, by first | rfl | (simp [errW_none, errW_some] <;> rfl) | (simp [*, errW_none, errW_some] <;> rfl), by (with_reducible repeat (first | apply rA_ | apply rN_ | apply rD_)); exact Kd.R_mono (Kd.R_far (p := ⟨gb167, 2, none⟩) (Kd.R_far (p := ⟨gb167, 1, none⟩) (Kd.R_far (p := ⟨gb167, 0, none⟩) (Kd.R_far (p := ⟨gb166, 2, none⟩) (Kd.R_types (Kd.R_types HO170.out BK166.out (by decide)) BK167.out (by decide)) (fun _ hk => hk.1.2) (.slice Ao8 t168.length co8)) (fun _ hk => hk.2) (.int .i64 a0_0)) (fun _ hk => hk.2) (.int .i64 a0_1)) (fun _ hk => hk.2) (.slice Ao8 t168.length co8)) (fun _ hk => trivial), zb2_ HB.out GE166.out GE167.out⟩

end Go.Proofs.Ytejnagdmfooemaa.QFnLanes
