/- Contracts of functions of the translation, each with its pure function; printed by a program of this session (wip/pr.py) over the kit's print; no condition of its own. -/
import Derived.Test.YtejnagdmfooemaaQFnLanesx0
import Derived.Test.YtejnagdmfooemaaQFnLanesx1
namespace Go.Proofs.Ytejnagdmfooemaa.QFnLanes
open Go.RowKit Go.Proofs.YtejnagdmfooemaaW.PrintWords Go.Proofs.YtejnagdmfooemaaW.PrintLast Go.Proofs.YtejnagdmfooemaaW.PrintMore
attribute [local go_sem] max2_int min2_int max_two min_two max_three min_three max_four min_four   -- for this text's walks alone
set_option linter.unusedVariables false
set_option linter.unusedSimpArgs false

/-! ### spec_FlowOk: function 19 -/
mutual
def spec_FlowOk.l0 : Nat → Int → Int → Int → List (S48) → Option (Bool)
  | 0, _, _, _, _ => none
  | k + 1, x3, x121000, x121001, x121002 => if x3 < (x121002.length : Int) then (if 0 ≤ x3 then (if ((rd_T48 x121002 x3).f0) < 1 then (spec_FlowOk.j1 k x3 true x121000 x121001 x121002) else ((spec_l1In.f ((rd_T48 x121002 x3).f1) (-2147483647) 2147483647).bind fun t123 => (if t123 = true then (if x3 > 0 then (if 0 ≤ (wrap64 (x3 - 1)) then (if (wrap64 (x3 - 1)) < (x121002.length : Int) then (spec_FlowOk.j1 k x3 (decide (((rd_T48 x121002 (wrap64 (x3 - 1))).f0) ≥ ((rd_T48 x121002 x3).f0))) x121000 x121001 x121002) else (none)) else (none)) else (spec_FlowOk.j1 k x3 false x121000 x121001 x121002)) else (spec_FlowOk.j1 k x3 true x121000 x121001 x121002)))) else (none)) else ((spec_l1In.f x121000 0 2147483647).bind fun t125 => (if t125 = true then ((spec_l1In.f x121001 0 2147483647).bind fun t126 => (if t126 = true then (some (decide ((x121002.length : Int) ≤ 100))) else (some false))) else (some false)))
def spec_FlowOk.j1 : Nat → Int → Bool → Int → Int → List (S48) → Option (Bool)
  | 0, _, _, _, _, _ => none
  | k + 1, x3, x41, x121000, x121001, x121002 => if x41 = true then (some false) else (spec_FlowOk.l0 k (wrap64 (x3 + 1)) x121000 x121001 x121002)
end
def spec_FlowOk.f (k : Nat) (a0_0 : Int) (a0_1 : Int) (l0_2 : List (S48)) : Option (Bool) := spec_FlowOk.l0 k 0 a0_0 a0_1 l0_2
theorem spec_FlowOk.mono_l : ∀ k, (∀ y0 y1 y2 y3, LeO (spec_FlowOk.l0 k y0 y1 y2 y3) (spec_FlowOk.l0 (k + 1) y0 y1 y2 y3)) ∧ (∀ y0 y1 y2 y3 y4, LeO (spec_FlowOk.j1 k y0 y1 y2 y3 y4) (spec_FlowOk.j1 (k + 1) y0 y1 y2 y3 y4))
  | 0 => ⟨fun _ _ _ _ r h => by simp [spec_FlowOk.l0] at h, fun _ _ _ _ _ r h => by simp [spec_FlowOk.j1] at h⟩
  | k + 1 => by
    obtain ⟨ih0, ih1⟩ := spec_FlowOk.mono_l k
    refine ⟨?_, ?_⟩
    · intro y0 y1 y2 y3
      unfold spec_FlowOk.l0
      repeat' first
      | (with_reducible exact ih0 _ _ _ _)
      | (with_reducible exact ih1 _ _ _ _ _)
      | (with_reducible exact LeO.refl _)
      | (with_reducible exact LeO.none _)
      | (with_reducible refine LeO.ite ?_ ?_)
      | (with_reducible refine LeO.bind ?_ (fun _ => ?_))
      | exact ih0 _ _ _ _
      | exact ih1 _ _ _ _ _
      | exact LeO.none _
      | refine LeO.ite ?_ ?_
      | refine LeO.bind ?_ (fun _ => ?_)
    · intro y0 y1 y2 y3 y4
      unfold spec_FlowOk.j1
      repeat' first
      | (with_reducible exact ih0 _ _ _ _)
      | (with_reducible exact ih1 _ _ _ _ _)
      | (with_reducible exact LeO.refl _)
      | (with_reducible exact LeO.none _)
      | (with_reducible refine LeO.ite ?_ ?_)
      | (with_reducible refine LeO.bind ?_ (fun _ => ?_))
      | exact ih0 _ _ _ _
      | exact ih1 _ _ _ _ _
      | exact LeO.none _
      | refine LeO.ite ?_ ?_
      | refine LeO.bind ?_ (fun _ => ?_)
theorem spec_FlowOk.mono : ∀ a0 a1 a2 k, LeO (spec_FlowOk.f k a0 a1 a2) (spec_FlowOk.f (k + 1) a0 a1 a2) := by
  intro a0 a1 a2 k
  obtain ⟨ih0, ih1⟩ := spec_FlowOk.mono_l k
  unfold spec_FlowOk.f
  repeat' first
      | (with_reducible exact ih0 _ _ _ _)
      | (with_reducible exact ih1 _ _ _ _ _)
      | (with_reducible exact LeO.refl _)
      | (with_reducible exact LeO.none _)
      | (with_reducible refine LeO.ite ?_ ?_)
      | (with_reducible refine LeO.bind ?_ (fun _ => ?_))
      | exact ih0 _ _ _ _
      | exact ih1 _ _ _ _ _
      | exact LeO.none _
      | refine LeO.ite ?_ ?_
      | refine LeO.bind ?_ (fun _ => ?_)
set_option maxHeartbeats 8000000 in
set_option maxRecDepth 100000 in
theorem spec_FlowOk.calls (k : Nat) (a0_0 : Int) (a0_1 : Int) (A0_2 : Option Addr) (c0_2 : Nat) (l0_2 : List (S48)) (r : Bool) (w : World) (hr0_2 : Kd.C k48 w A0_2 l0_2.length l0_2) (hc0_2 : l0_2.length ≤ c0_2) (h : spec_FlowOk.f k a0_0 a0_1 l0_2 = some r) :
    Calls Try.prog 19 #[.agg #[.int .i64 a0_0, .int .i64 a0_1, .slice A0_2 l0_2.length c0_2]] w fun e w' => e = .returned (.bool r) ∧ Below w.heap.size w w' := by
  have hu24 := Try.underlying24
  have hu48 := Try.underlying48
  have HR0_2 := Aside0.mk hr0_2
  have HC0_2 := Aside0.mk hc0_2
  clear hr0_2 hc0_2
  have HB := As_ (Below.refl w.heap.size w)
  have H : (spec_FlowOk.l0 k 0 a0_0 a0_1 l0_2) = some r := h
  clear h
  have H' := Aside0.mk H
  clear H
  go_enter Try.func19, Try.ntmps19
  go_wp2_with (first | ((with_reducible refine gate_dst (N := 1) rfl ?_); (try (refine gate_guard (by rfl) ?_; dsimp only)); refine box_event ?hg (N := 1) ?hd (cs := #[.int .i64 a0_0, .int .i64 a0_1, .slice A0_2 l0_2.length c0_2]) (t := 24) ?hr ?_; (case hd => rfl); (case hg => rfl); (case hr => first | (go_simp; done) | (go_simp; rfl)); intro gb120 hg w2 hbox hb; have n0_ := As_ (below_step (zb0_ HB.out) hb); have n1_ := As_ (hbox); have n2_ := As_ ((sb_ hg (zb0_ HB.out) : w.heap.size ≤ gb120)); have n3_ := As_ ((sb_ hg (zb0_ HB.out) : w.heap.size ≤ gb120)); clear HB; have HB := n0_; have BK120 := n1_; have GW120 := n2_; have GE120 := n3_; clear n0_ n1_ n2_ n3_ hb hbox hg))
  repeat (go_quiet (first | ((with_reducible refine gate_dst (N := 1) rfl ?_); (try (refine gate_guard (by rfl) ?_; dsimp only)); refine box_event ?hg (N := 1) ?hd (cs := #[.int .i64 a0_0, .int .i64 a0_1, .slice A0_2 l0_2.length c0_2]) (t := 24) ?hr ?_; (case hd => rfl); (case hg => rfl); (case hr => first | (go_simp; done) | (go_simp; rfl)); intro gb120 hg w2 hbox hb; have n0_ := As_ (below_step (zb0_ HB.out) hb); have n1_ := As_ (hbox); have n2_ := As_ ((sb_ hg (zb0_ HB.out) : w.heap.size ≤ gb120)); have n3_ := As_ ((sb_ hg (zb0_ HB.out) : w.heap.size ≤ gb120)); clear HB; have HB := n0_; have BK120 := n1_; have GW120 := n2_; have GE120 := n3_; clear n0_ n1_ n2_ n3_ hb hbox hg)); try go_wp2_with (first | ((with_reducible refine gate_dst (N := 1) rfl ?_); (try (refine gate_guard (by rfl) ?_; dsimp only)); refine box_event ?hg (N := 1) ?hd (cs := #[.int .i64 a0_0, .int .i64 a0_1, .slice A0_2 l0_2.length c0_2]) (t := 24) ?hr ?_; (case hd => rfl); (case hg => rfl); (case hr => first | (go_simp; done) | (go_simp; rfl)); intro gb120 hg w2 hbox hb; have n0_ := As_ (below_step (zb0_ HB.out) hb); have n1_ := As_ (hbox); have n2_ := As_ ((sb_ hg (zb0_ HB.out) : w.heap.size ≤ gb120)); have n3_ := As_ ((sb_ hg (zb0_ HB.out) : w.heap.size ≤ gb120)); clear HB; have HB := n0_; have BK120 := n1_; have GW120 := n2_; have GE120 := n3_; clear n0_ n1_ n2_ n3_ hb hbox hg)))
  go_loopg [3] k (fun kq v3 w' => ∃ (x3_1 : Int), v3 = .int .i64 x3_1 ∧ Aside0 (spec_FlowOk.l0 kq x3_1 a0_0 a0_1 l0_2 = some r) ∧ Aside0 (kq ≤ k) ∧ Aside0 (w'.heap[gb120]? = some (.cells #[.int .i64 a0_0, .int .i64 a0_1, (.slice A0_2 l0_2.length c0_2)] 24 (0, 0))) ∧ Aside0 (Below w.heap.size w w'))
  case atStart => exact ⟨(0), (by first | rfl | (simp; done) | (simp [*]; done)), H', ⟨Nat.le_refl _⟩, ⟨ak_ BK120.out⟩, ⟨zb1_ HB.out GE120.out⟩⟩
  case round =>
    clear H'
    try clear c1
    try clear p2
    obtain ⟨x3_1, rfl, HA, HK1, BK120, HB⟩ := hrel
    cases gk with
    | zero => exact absurd HA.out (by simp [spec_FlowOk.l0])
    | succ k1 =>
      have H := HA.out
      clear HA
      simp only [spec_FlowOk.l0] at H
      by_cases c3 : x3_1 < (l0_2.length : Int)
      · rw [if_pos c3] at H
        have c3b0 : decide (x3_1 < (l0_2.length : Int)) = true := decide_eq_true c3
        clear c3
        by_cases c4 : 0 ≤ x3_1
        · rw [if_pos c4] at H
          have c4b0 : decide (0 ≤ x3_1) = true := decide_eq_true c4
          clear c4
          have HC5 := Aside0.mk H
          clear H
          obtain ⟨hcz6_0, hcz6_1, hcz6_2, hfz6_0, hfz6_1, hfz6_2⟩ := blk_all3 BK120.out
          have p121 : 0 ≤ (x3_1 : Int) := of_decide_eq_true sm_
          have q121 : x3_1 < (l0_2.length : Int) := of_decide_eq_true sm_
          obtain ⟨ad121, e121, hx121_0, hx121_1⟩ := at_T48 HR0_2.out x3_1 p121 q121
          cases e121
          replace hx121_0 := (HB.out.cell (World.block_lt_of_cell? w _ hx121_0)).trans hx121_0
          replace hx121_1 := (HB.out.cell (World.block_lt_of_cell? w _ hx121_1)).trans hx121_1
          replace p121 := eq_true p121
          replace q121 := eq_true q121
          go_upto_region 5 with (first | ((with_reducible refine gate_dst (N := 4) rfl ?_); (try (refine gate_guard (by rfl) ?_; dsimp only)); refine box_event ?hg (N := 4) ?hd (cs := #[.int .i64 0, .int .i64 0]) (t := 48) ?hr ?_; (case hd => rfl); (case hg => rfl); (case hr => first | (go_simp; done) | (go_simp; rfl)); intro gb122 hg w7 hbox hb; have n0_ := As_ (blk_below (g := gb120) (o := .cells #[.int .i64 a0_0, .int .i64 a0_1, .slice (some ad121) l0_2.length c0_2] 24 (0, 0)) (ak_ BK120.out) hb); have n1_ := As_ (below_step (zb1_ HB.out GE120.out) hb); have n2_ := As_ (hbox); have n3_ := As_ ((sb_ hg (zb1_ HB.out GE120.out) : w.heap.size ≤ gb122)); have n4_ := As_ ((sb_ hg (zb1_ HB.out GE120.out) : w.heap.size ≤ gb122)); have n5_ := As_ ((nl_ hg BK120.out : gb120 ≠ gb122)); have n6_ := As_ ((ng_ hg BK120.out : gb122 ≠ gb120)); clear BK120 HB; have BK120 := n0_; have HB := n1_; have BK122 := n2_; have GW122 := n3_; have GE122 := n4_; have NB120_122 := n5_; have NB122_120 := n6_; clear n0_ n1_ n2_ n3_ n4_ n5_ n6_ hb hbox hg; have hnb8 := NB122_120.out; have hnc8 := NB120_122.out; obtain ⟨hcz9_0, hcz9_1, hfz9_0, hfz9_1⟩ := blk_all2 BK122.out))
          repeat (go_quiet (first | ((with_reducible refine gate_dst (N := 4) rfl ?_); (try (refine gate_guard (by rfl) ?_; dsimp only)); refine box_event ?hg (N := 4) ?hd (cs := #[.int .i64 0, .int .i64 0]) (t := 48) ?hr ?_; (case hd => rfl); (case hg => rfl); (case hr => first | (go_simp; done) | (go_simp; rfl)); intro gb122 hg w7 hbox hb; have n0_ := As_ (blk_below (g := gb120) (o := .cells #[.int .i64 a0_0, .int .i64 a0_1, .slice (some ad121) l0_2.length c0_2] 24 (0, 0)) (ak_ BK120.out) hb); have n1_ := As_ (below_step (zb1_ HB.out GE120.out) hb); have n2_ := As_ (hbox); have n3_ := As_ ((sb_ hg (zb1_ HB.out GE120.out) : w.heap.size ≤ gb122)); have n4_ := As_ ((sb_ hg (zb1_ HB.out GE120.out) : w.heap.size ≤ gb122)); have n5_ := As_ ((nl_ hg BK120.out : gb120 ≠ gb122)); have n6_ := As_ ((ng_ hg BK120.out : gb122 ≠ gb120)); clear BK120 HB; have BK120 := n0_; have HB := n1_; have BK122 := n2_; have GW122 := n3_; have GE122 := n4_; have NB120_122 := n5_; have NB122_120 := n6_; clear n0_ n1_ n2_ n3_ n4_ n5_ n6_ hb hbox hg; have hnb8 := NB122_120.out; have hnc8 := NB120_122.out; obtain ⟨hcz9_0, hcz9_1, hfz9_0, hfz9_1⟩ := blk_all2 BK122.out)); go_upto_region 5 with (first | ((with_reducible refine gate_dst (N := 4) rfl ?_); (try (refine gate_guard (by rfl) ?_; dsimp only)); refine box_event ?hg (N := 4) ?hd (cs := #[.int .i64 0, .int .i64 0]) (t := 48) ?hr ?_; (case hd => rfl); (case hg => rfl); (case hr => first | (go_simp; done) | (go_simp; rfl)); intro gb122 hg w7 hbox hb; have n0_ := As_ (blk_below (g := gb120) (o := .cells #[.int .i64 a0_0, .int .i64 a0_1, .slice (some ad121) l0_2.length c0_2] 24 (0, 0)) (ak_ BK120.out) hb); have n1_ := As_ (below_step (zb1_ HB.out GE120.out) hb); have n2_ := As_ (hbox); have n3_ := As_ ((sb_ hg (zb1_ HB.out GE120.out) : w.heap.size ≤ gb122)); have n4_ := As_ ((sb_ hg (zb1_ HB.out GE120.out) : w.heap.size ≤ gb122)); have n5_ := As_ ((nl_ hg BK120.out : gb120 ≠ gb122)); have n6_ := As_ ((ng_ hg BK120.out : gb122 ≠ gb120)); clear BK120 HB; have BK120 := n0_; have HB := n1_; have BK122 := n2_; have GW122 := n3_; have GE122 := n4_; have NB120_122 := n5_; have NB122_120 := n6_; clear n0_ n1_ n2_ n3_ n4_ n5_ n6_ hb hbox hg; have hnb8 := NB122_120.out; have hnc8 := NB120_122.out; obtain ⟨hcz9_0, hcz9_1, hfz9_0, hfz9_1⟩ := blk_all2 BK122.out)))
          (try simp only [Act.put, List.setIfInBounds_toArray, List.set_cons_zero, List.set_cons_succ])
          go_cut [41] (fun v41 wc => ∃ (kq : Nat) (x41_4 : Bool), v41 = .bool x41_4 ∧ Aside0 (spec_FlowOk.j1 kq x3_1 x41_4 a0_0 a0_1 l0_2 = some r) ∧ Aside0 (kq ≤ k1) ∧ Aside0 (wc.heap[gb120]? = some (.cells #[.int .i64 a0_0, .int .i64 a0_1, (.slice (some ad121) l0_2.length c0_2)] 24 (0, 0))) ∧ Aside0 (wc.heap[gb122]? = some (.cells #[.int .i64 ((rd_T48 l0_2 x3_1).f0), .int .i64 ((rd_T48 l0_2 x3_1).f1)] 48 (0, 0))) ∧ Aside0 (Below w.heap.size w wc))
          case first =>
            have H := HC5.out
            clear HC5
            by_cases c10 : ((rd_T48 l0_2 x3_1).f0) < 1
            · rw [if_pos c10] at H
              have c10b0 : decide (((rd_T48 l0_2 x3_1).f0) < 1) = true := decide_eq_true c10
              clear c10
              (first | rw [c10b0] | (simp only [i64_w, i32_w]; rw [c10b0]) | skip)
              have H' := Aside0.mk H
              clear H
              have hnb11 := NB122_120.out
              have hnc11 := NB120_122.out
              obtain ⟨hcz12_0, hcz12_1, hfz12_0, hfz12_1⟩ := blk_all2 BK122.out
              go_wp2
              repeat (go_quiet (fail); try go_wp2)
              go_meet
              case rel => exact ⟨_, (true), (by first | rfl | (simp; done) | (simp [*]; done)), H', ⟨by have := HK1.out; first | omega | exact Nat.le_refl _⟩, ⟨af_ NB120_122.out BK120.out⟩, ⟨ap_ BK122.out⟩, ⟨zb2_ HB.out GE120.out GE122.out⟩⟩
            · rw [if_neg c10] at H
              have c10b0 : decide (((rd_T48 l0_2 x3_1).f0) < 1) = false := decide_eq_false c10
              clear c10
              (first | rw [c10b0] | (simp only [i64_w, i32_w]; rw [c10b0]) | skip)
              replace H := Option.bind_eq_some_iff.mp H
              obtain ⟨t123, A130, H⟩ := H
              replace H : (if t123 = true then (if x3_1 > 0 then (if 0 ≤ (wrap64 (x3_1 - 1)) then (if (wrap64 (x3_1 - 1)) < (l0_2.length : Int) then (spec_FlowOk.j1 k1 x3_1 (decide (((rd_T48 l0_2 (wrap64 (x3_1 - 1))).f0) ≥ ((rd_T48 l0_2 x3_1).f0))) a0_0 a0_1 l0_2) else (none)) else (none)) else (spec_FlowOk.j1 k1 x3_1 false a0_0 a0_1 l0_2)) else (spec_FlowOk.j1 k1 x3_1 true a0_0 a0_1 l0_2)) = some r := H
              have A13 := Aside0.mk A130
              clear A130
              by_cases c14 : t123 = true
              · subst c14
                have H1 : (if x3_1 > 0 then (if 0 ≤ (wrap64 (x3_1 - 1)) then (if (wrap64 (x3_1 - 1)) < (l0_2.length : Int) then (spec_FlowOk.j1 k1 x3_1 (decide (((rd_T48 l0_2 (wrap64 (x3_1 - 1))).f0) ≥ ((rd_T48 l0_2 x3_1).f0))) a0_0 a0_1 l0_2) else (none)) else (none)) else (spec_FlowOk.j1 k1 x3_1 false a0_0 a0_1 l0_2)) = some r := by rw [if_pos rfl] at H; exact H
                clear H
                have H := H1
                clear H1
                by_cases c15 : x3_1 > 0
                · rw [if_pos c15] at H
                  have c15b0 : decide (0 < x3_1) = true := decide_eq_true c15
                  clear c15
                  obtain ⟨ji16, hji16⟩ : ∃ j_ : Int, (wrap64 (x3_1 - 1)) = j_ := ⟨_, rfl⟩
                  replace H : (if 0 ≤ (ji16) then (if (ji16) < (l0_2.length : Int) then (spec_FlowOk.j1 k1 x3_1 (decide (((rd_T48 l0_2 (ji16)).f0) ≥ ((rd_T48 l0_2 x3_1).f0))) a0_0 a0_1 l0_2) else (none)) else (none)) = some r := by first | (rw [hji16] at H; exact H) | (simp only [hji16] at H ⊢; exact H)
                  (try rw [hji16] at A13)
                  have hji16w : (IntKind.i64.wrap (x3_1 - 1)) = ji16 := (i64_w _).trans hji16
                  by_cases c17 : 0 ≤ (ji16)
                  · rw [if_pos c17] at H
                    have c17b0 : decide (0 ≤ (ji16)) = true := decide_eq_true c17
                    clear c17
                    by_cases c18 : (ji16) < (l0_2.length : Int)
                    · rw [if_pos c18] at H
                      have c18b0 : decide ((ji16) < (l0_2.length : Int)) = true := decide_eq_true c18
                      clear c18
                      have H' := Aside0.mk H
                      clear H
                      have hnb19 := NB122_120.out
                      have hnc19 := NB120_122.out
                      obtain ⟨hcz20_0, hcz20_1, hfz20_0, hfz20_1⟩ := blk_all2 BK122.out
                      go_wp2_with (first | (go_at_call 38; (with_reducible refine (spec_l1In.calls ((rd_T48 l0_2 x3_1).f1) (-2147483647) 2147483647 true _ A13.out).mono ?_); rintro e w' ⟨rfl, ⟨nd, rfl⟩⟩; (try first | exact ⟨rfl, _, World.drewN_drewN _ _ _⟩ | exact ⟨rfl, _, Eq.trans (World.drewN_drewN _ _ _) (congrArg (World.drewN _) (Nat.add_assoc _ _ _))⟩); obtain ⟨hcz21_0, hcz21_1, hcz21_2, hfz21_0, hfz21_1, hfz21_2⟩ := blk_all3 BK120.out; have p124 : 0 ≤ ((ji16) : Int) := of_decide_eq_true sm_; have q124 : (ji16) < (l0_2.length : Int) := of_decide_eq_true sm_; obtain ⟨ad124, e124, hx124_0, hx124_1⟩ := at_T48 HR0_2.out (ji16) p124 q124; obtain rfl : ad121 = ad124 := (by injection e124); have hn124_0 : ad121.block ≠ gb122 := Nat.ne_of_lt (Nat.lt_of_lt_of_le (by have := World.block_lt_of_cell? _ _ hx124_0; first | rwa [add_block] at this | exact this) GW122.out); have hn124_1 : ad121.block ≠ gb122 := Nat.ne_of_lt (Nat.lt_of_lt_of_le (by have := World.block_lt_of_cell? _ _ hx124_0; first | rwa [add_block] at this | exact this) GW122.out); replace hx124_0 := (HB.out.cell (World.block_lt_of_cell? w _ hx124_0)).trans hx124_0; replace hx124_1 := (HB.out.cell (World.block_lt_of_cell? w _ hx124_1)).trans hx124_1; replace hx124_0 := (cell_far (p := ⟨gb122, 0, none⟩) (by first | (rw [add_block]; exact hn124_0) | (show (Addr.add _ _).block ≠ _; rw [add_block]; exact hn124_0) | exact hn124_0) (.int .i64 ((rd_T48 l0_2 x3_1).f0))).trans hx124_0; replace hx124_1 := (cell_far (p := ⟨gb122, 0, none⟩) (by first | (rw [add_block]; exact hn124_0) | (show (Addr.add _ _).block ≠ _; rw [add_block]; exact hn124_0) | exact hn124_0) (.int .i64 ((rd_T48 l0_2 x3_1).f0))).trans hx124_1; replace hx124_0 := (cell_far (p := ⟨gb122, 1, none⟩) (by first | (rw [add_block]; exact hn124_1) | (show (Addr.add _ _).block ≠ _; rw [add_block]; exact hn124_1) | exact hn124_1) (.int .i64 ((rd_T48 l0_2 x3_1).f1))).trans hx124_0; replace hx124_1 := (cell_far (p := ⟨gb122, 1, none⟩) (by first | (rw [add_block]; exact hn124_1) | (show (Addr.add _ _).block ≠ _; rw [add_block]; exact hn124_1) | exact hn124_1) (.int .i64 ((rd_T48 l0_2 x3_1).f1))).trans hx124_1; (try have hy124_0 := fun (n_ : Nat) => (show ((((w7.drewN n_).setCell ⟨gb122, 0, none⟩ (.int .i64 ((rd_T48 l0_2 x3_1).f0))).setCell ⟨gb122, 1, none⟩ (.int .i64 ((rd_T48 l0_2 x3_1).f1)))).cell? _ = some _ from hx124_0)); (try have hy124_1 := fun (n_ : Nat) => (show ((((w7.drewN n_).setCell ⟨gb122, 0, none⟩ (.int .i64 ((rd_T48 l0_2 x3_1).f0))).setCell ⟨gb122, 1, none⟩ (.int .i64 ((rd_T48 l0_2 x3_1).f1)))).cell? _ = some _ from hx124_1)); clear hn124_0 hn124_1; replace p124 := eq_true p124; replace q124 := eq_true q124))
                      repeat (go_quiet (first | (go_at_call 38; (with_reducible refine (spec_l1In.calls ((rd_T48 l0_2 x3_1).f1) (-2147483647) 2147483647 true _ A13.out).mono ?_); rintro e w' ⟨rfl, ⟨nd, rfl⟩⟩; (try first | exact ⟨rfl, _, World.drewN_drewN _ _ _⟩ | exact ⟨rfl, _, Eq.trans (World.drewN_drewN _ _ _) (congrArg (World.drewN _) (Nat.add_assoc _ _ _))⟩); obtain ⟨hcz21_0, hcz21_1, hcz21_2, hfz21_0, hfz21_1, hfz21_2⟩ := blk_all3 BK120.out; have p124 : 0 ≤ ((ji16) : Int) := of_decide_eq_true sm_; have q124 : (ji16) < (l0_2.length : Int) := of_decide_eq_true sm_; obtain ⟨ad124, e124, hx124_0, hx124_1⟩ := at_T48 HR0_2.out (ji16) p124 q124; obtain rfl : ad121 = ad124 := (by injection e124); have hn124_0 : ad121.block ≠ gb122 := Nat.ne_of_lt (Nat.lt_of_lt_of_le (by have := World.block_lt_of_cell? _ _ hx124_0; first | rwa [add_block] at this | exact this) GW122.out); have hn124_1 : ad121.block ≠ gb122 := Nat.ne_of_lt (Nat.lt_of_lt_of_le (by have := World.block_lt_of_cell? _ _ hx124_0; first | rwa [add_block] at this | exact this) GW122.out); replace hx124_0 := (HB.out.cell (World.block_lt_of_cell? w _ hx124_0)).trans hx124_0; replace hx124_1 := (HB.out.cell (World.block_lt_of_cell? w _ hx124_1)).trans hx124_1; replace hx124_0 := (cell_far (p := ⟨gb122, 0, none⟩) (by first | (rw [add_block]; exact hn124_0) | (show (Addr.add _ _).block ≠ _; rw [add_block]; exact hn124_0) | exact hn124_0) (.int .i64 ((rd_T48 l0_2 x3_1).f0))).trans hx124_0; replace hx124_1 := (cell_far (p := ⟨gb122, 0, none⟩) (by first | (rw [add_block]; exact hn124_0) | (show (Addr.add _ _).block ≠ _; rw [add_block]; exact hn124_0) | exact hn124_0) (.int .i64 ((rd_T48 l0_2 x3_1).f0))).trans hx124_1; replace hx124_0 := (cell_far (p := ⟨gb122, 1, none⟩) (by first | (rw [add_block]; exact hn124_1) | (show (Addr.add _ _).block ≠ _; rw [add_block]; exact hn124_1) | exact hn124_1) (.int .i64 ((rd_T48 l0_2 x3_1).f1))).trans hx124_0; replace hx124_1 := (cell_far (p := ⟨gb122, 1, none⟩) (by first | (rw [add_block]; exact hn124_1) | (show (Addr.add _ _).block ≠ _; rw [add_block]; exact hn124_1) | exact hn124_1) (.int .i64 ((rd_T48 l0_2 x3_1).f1))).trans hx124_1; (try have hy124_0 := fun (n_ : Nat) => (show ((((w7.drewN n_).setCell ⟨gb122, 0, none⟩ (.int .i64 ((rd_T48 l0_2 x3_1).f0))).setCell ⟨gb122, 1, none⟩ (.int .i64 ((rd_T48 l0_2 x3_1).f1)))).cell? _ = some _ from hx124_0)); (try have hy124_1 := fun (n_ : Nat) => (show ((((w7.drewN n_).setCell ⟨gb122, 0, none⟩ (.int .i64 ((rd_T48 l0_2 x3_1).f0))).setCell ⟨gb122, 1, none⟩ (.int .i64 ((rd_T48 l0_2 x3_1).f1)))).cell? _ = some _ from hx124_1)); clear hn124_0 hn124_1; replace p124 := eq_true p124; replace q124 := eq_true q124)); try go_wp2_with (first | (go_at_call 38; (with_reducible refine (spec_l1In.calls ((rd_T48 l0_2 x3_1).f1) (-2147483647) 2147483647 true _ A13.out).mono ?_); rintro e w' ⟨rfl, ⟨nd, rfl⟩⟩; (try first | exact ⟨rfl, _, World.drewN_drewN _ _ _⟩ | exact ⟨rfl, _, Eq.trans (World.drewN_drewN _ _ _) (congrArg (World.drewN _) (Nat.add_assoc _ _ _))⟩); obtain ⟨hcz21_0, hcz21_1, hcz21_2, hfz21_0, hfz21_1, hfz21_2⟩ := blk_all3 BK120.out; have p124 : 0 ≤ ((ji16) : Int) := of_decide_eq_true sm_; have q124 : (ji16) < (l0_2.length : Int) := of_decide_eq_true sm_; obtain ⟨ad124, e124, hx124_0, hx124_1⟩ := at_T48 HR0_2.out (ji16) p124 q124; obtain rfl : ad121 = ad124 := (by injection e124); have hn124_0 : ad121.block ≠ gb122 := Nat.ne_of_lt (Nat.lt_of_lt_of_le (by have := World.block_lt_of_cell? _ _ hx124_0; first | rwa [add_block] at this | exact this) GW122.out); have hn124_1 : ad121.block ≠ gb122 := Nat.ne_of_lt (Nat.lt_of_lt_of_le (by have := World.block_lt_of_cell? _ _ hx124_0; first | rwa [add_block] at this | exact this) GW122.out); replace hx124_0 := (HB.out.cell (World.block_lt_of_cell? w _ hx124_0)).trans hx124_0; replace hx124_1 := (HB.out.cell (World.block_lt_of_cell? w _ hx124_1)).trans hx124_1; replace hx124_0 := (cell_far (p := ⟨gb122, 0, none⟩) (by first | (rw [add_block]; exact hn124_0) | (show (Addr.add _ _).block ≠ _; rw [add_block]; exact hn124_0) | exact hn124_0) (.int .i64 ((rd_T48 l0_2 x3_1).f0))).trans hx124_0; replace hx124_1 := (cell_far (p := ⟨gb122, 0, none⟩) (by first | (rw [add_block]; exact hn124_0) | (show (Addr.add _ _).block ≠ _; rw [add_block]; exact hn124_0) | exact hn124_0) (.int .i64 ((rd_T48 l0_2 x3_1).f0))).trans hx124_1; replace hx124_0 := (cell_far (p := ⟨gb122, 1, none⟩) (by first | (rw [add_block]; exact hn124_1) | (show (Addr.add _ _).block ≠ _; rw [add_block]; exact hn124_1) | exact hn124_1) (.int .i64 ((rd_T48 l0_2 x3_1).f1))).trans hx124_0; replace hx124_1 := (cell_far (p := ⟨gb122, 1, none⟩) (by first | (rw [add_block]; exact hn124_1) | (show (Addr.add _ _).block ≠ _; rw [add_block]; exact hn124_1) | exact hn124_1) (.int .i64 ((rd_T48 l0_2 x3_1).f1))).trans hx124_1; (try have hy124_0 := fun (n_ : Nat) => (show ((((w7.drewN n_).setCell ⟨gb122, 0, none⟩ (.int .i64 ((rd_T48 l0_2 x3_1).f0))).setCell ⟨gb122, 1, none⟩ (.int .i64 ((rd_T48 l0_2 x3_1).f1)))).cell? _ = some _ from hx124_0)); (try have hy124_1 := fun (n_ : Nat) => (show ((((w7.drewN n_).setCell ⟨gb122, 0, none⟩ (.int .i64 ((rd_T48 l0_2 x3_1).f0))).setCell ⟨gb122, 1, none⟩ (.int .i64 ((rd_T48 l0_2 x3_1).f1)))).cell? _ = some _ from hx124_1)); clear hn124_0 hn124_1; replace p124 := eq_true p124; replace q124 := eq_true q124)))
                      go_meet
                      case rel => exact ⟨_, (decide (((rd_T48 l0_2 (ji16)).f0) ≥ ((rd_T48 l0_2 x3_1).f0))), (by first | rfl | (simp; done) | (simp only [← hji16] <;> (first | rfl | simp)) | (simp [*]; done)), H', ⟨by have := HK1.out; first | omega | exact Nat.le_refl _⟩, ⟨af_ NB120_122.out BK120.out⟩, ⟨ap_ BK122.out⟩, ⟨zb2_ HB.out GE120.out GE122.out⟩⟩
                    · rw [if_neg c18] at H
                      exact absurd H (by simp)
                  · rw [if_neg c17] at H
                    exact absurd H (by simp)
                · rw [if_neg c15] at H
                  have c15b0 : decide (0 < x3_1) = false := decide_eq_false c15
                  clear c15
                  have H' := Aside0.mk H
                  clear H
                  have hnb22 := NB122_120.out
                  have hnc22 := NB120_122.out
                  obtain ⟨hcz23_0, hcz23_1, hfz23_0, hfz23_1⟩ := blk_all2 BK122.out
                  go_wp2_with (first | (go_at_call 38; (with_reducible refine (spec_l1In.calls ((rd_T48 l0_2 x3_1).f1) (-2147483647) 2147483647 true _ A13.out).mono ?_); rintro e w' ⟨rfl, ⟨nd, rfl⟩⟩; (try first | exact ⟨rfl, _, World.drewN_drewN _ _ _⟩ | exact ⟨rfl, _, Eq.trans (World.drewN_drewN _ _ _) (congrArg (World.drewN _) (Nat.add_assoc _ _ _))⟩)))
                  repeat (go_quiet (first | (go_at_call 38; (with_reducible refine (spec_l1In.calls ((rd_T48 l0_2 x3_1).f1) (-2147483647) 2147483647 true _ A13.out).mono ?_); rintro e w' ⟨rfl, ⟨nd, rfl⟩⟩; (try first | exact ⟨rfl, _, World.drewN_drewN _ _ _⟩ | exact ⟨rfl, _, Eq.trans (World.drewN_drewN _ _ _) (congrArg (World.drewN _) (Nat.add_assoc _ _ _))⟩))); try go_wp2_with (first | (go_at_call 38; (with_reducible refine (spec_l1In.calls ((rd_T48 l0_2 x3_1).f1) (-2147483647) 2147483647 true _ A13.out).mono ?_); rintro e w' ⟨rfl, ⟨nd, rfl⟩⟩; (try first | exact ⟨rfl, _, World.drewN_drewN _ _ _⟩ | exact ⟨rfl, _, Eq.trans (World.drewN_drewN _ _ _) (congrArg (World.drewN _) (Nat.add_assoc _ _ _))⟩))))
                  go_meet
                  case rel => exact ⟨_, (false), (by first | rfl | (simp; done) | (simp [*]; done)), H', ⟨by have := HK1.out; first | omega | exact Nat.le_refl _⟩, ⟨af_ NB120_122.out BK120.out⟩, ⟨ap_ BK122.out⟩, ⟨zb2_ HB.out GE120.out GE122.out⟩⟩
              · replace c14 := Bool.eq_false_iff.mpr c14
                subst c14
                have H1 : (spec_FlowOk.j1 k1 x3_1 true a0_0 a0_1 l0_2) = some r := by rw [if_neg (show ¬ (false = true) by decide)] at H; exact H
                clear H
                have H := H1
                clear H1
                have H' := Aside0.mk H
                clear H
                have hnb24 := NB122_120.out
                have hnc24 := NB120_122.out
                obtain ⟨hcz25_0, hcz25_1, hfz25_0, hfz25_1⟩ := blk_all2 BK122.out
                go_wp2_with (first | (go_at_call 38; (with_reducible refine (spec_l1In.calls ((rd_T48 l0_2 x3_1).f1) (-2147483647) 2147483647 false _ A13.out).mono ?_); rintro e w' ⟨rfl, ⟨nd, rfl⟩⟩; (try first | exact ⟨rfl, _, World.drewN_drewN _ _ _⟩ | exact ⟨rfl, _, Eq.trans (World.drewN_drewN _ _ _) (congrArg (World.drewN _) (Nat.add_assoc _ _ _))⟩)))
                repeat (go_quiet (first | (go_at_call 38; (with_reducible refine (spec_l1In.calls ((rd_T48 l0_2 x3_1).f1) (-2147483647) 2147483647 false _ A13.out).mono ?_); rintro e w' ⟨rfl, ⟨nd, rfl⟩⟩; (try first | exact ⟨rfl, _, World.drewN_drewN _ _ _⟩ | exact ⟨rfl, _, Eq.trans (World.drewN_drewN _ _ _) (congrArg (World.drewN _) (Nat.add_assoc _ _ _))⟩))); try go_wp2_with (first | (go_at_call 38; (with_reducible refine (spec_l1In.calls ((rd_T48 l0_2 x3_1).f1) (-2147483647) 2147483647 false _ A13.out).mono ?_); rintro e w' ⟨rfl, ⟨nd, rfl⟩⟩; (try first | exact ⟨rfl, _, World.drewN_drewN _ _ _⟩ | exact ⟨rfl, _, Eq.trans (World.drewN_drewN _ _ _) (congrArg (World.drewN _) (Nat.add_assoc _ _ _))⟩))))
                go_meet
                case rel => exact ⟨_, (true), (by first | rfl | (simp; done) | (simp [*]; done)), H', ⟨by have := HK1.out; first | omega | exact Nat.le_refl _⟩, ⟨af_ NB120_122.out BK120.out⟩, ⟨ap_ BK122.out⟩, ⟨zb2_ HB.out GE120.out GE122.out⟩⟩
          case rest =>
            clear HC5
            try clear c1
            try clear p1
            try clear q1
            try clear hx1
            try clear c2
            try clear p2
            try clear c3
            try clear c3b0
            try clear c4
            try clear c4b0
            try clear p6
            try clear c8
            try clear c10
            try clear c10b0
            try clear c11
            try clear p12
            try clear q12
            try clear hx12
            try clear c14
            try clear c15
            try clear c15b0
            try clear c17
            try clear c17b0
            try clear c18
            try clear c18b0
            try clear c19
            try clear c22
            try clear c24
            try clear hcz12_0
            try clear hcz12_1
            try clear hcz20_0
            try clear hcz20_1
            try clear hcz21_0
            try clear hcz21_1
            try clear hcz21_2
            try clear hcz23_0
            try clear hcz23_1
            try clear hcz25_0
            try clear hcz25_1
            try clear hcz6_0
            try clear hcz6_1
            try clear hcz6_2
            try clear hcz9_0
            try clear hcz9_1
            try clear hfz12_0
            try clear hfz12_1
            try clear hfz20_0
            try clear hfz20_1
            try clear hfz21_0
            try clear hfz21_1
            try clear hfz21_2
            try clear hfz23_0
            try clear hfz23_1
            try clear hfz25_0
            try clear hfz25_1
            try clear hfz6_0
            try clear hfz6_1
            try clear hfz6_2
            try clear hfz9_0
            try clear hfz9_1
            try clear hx121_0
            try clear hx121_1
            try clear hx124_0
            try clear hx124_1
            try clear p121
            try clear p124
            try clear p2
            try clear q121
            try clear q124
            obtain ⟨kq, x41_4, rfl, HA, HJ4, BK120, BK122, HB⟩ := hcut
            cases kq with
            | zero => exact absurd HA.out (by simp [spec_FlowOk.j1])
            | succ kj4 =>
              have H := HA.out
              clear HA
              simp only [spec_FlowOk.j1] at H
              by_cases c26 : x41_4 = true
              · subst c26
                have H1 : (some false) = some r := by rw [if_pos rfl] at H; exact H
                clear H
                have H := H1
                clear H1
                obtain rfl := Option.some.inj H
                go_wp2
                repeat (go_quiet (fail); try go_wp2)
                go_ret
                exact ⟨by first | rfl | (simp [errW_none, errW_some] <;> rfl) | (simp [*, errW_none, errW_some] <;> rfl), zb2_ HB.out GE120.out GE122.out⟩
              · replace c26 := Bool.eq_false_iff.mpr c26
                subst c26
                have H1 : (spec_FlowOk.l0 kj4 (wrap64 (x3_1 + 1)) a0_0 a0_1 l0_2) = some r := by rw [if_neg (show ¬ (false = true) by decide)] at H; exact H
                clear H
                have H := H1
                clear H1
                have H' := Aside0.mk H
                clear H
                go_wp2
                repeat (go_quiet (fail); try go_wp2)
                go_roundg kj4
                case measure => have := HK1.out; have := HJ4.out; omega
                case rel => exact ⟨(wrap64 (x3_1 + 1)), (by first | rfl | (simp; done) | (simp [*]; done)), H', ⟨by have := HK1.out; have := HJ4.out; omega⟩, ⟨ak_ BK120.out⟩, ⟨zb2_ HB.out GE120.out GE122.out⟩⟩
        · rw [if_neg c4] at H
          exact absurd H (by simp)
      · rw [if_neg c3] at H
        have c3b0 : decide (x3_1 < (l0_2.length : Int)) = false := decide_eq_false c3
        clear c3
        replace H := Option.bind_eq_some_iff.mp H
        obtain ⟨t125, A270, H⟩ := H
        replace H : (if t125 = true then ((spec_l1In.f a0_1 0 2147483647).bind fun t126 => (if t126 = true then (some (decide ((l0_2.length : Int) ≤ 100))) else (some false))) else (some false)) = some r := H
        have A27 := Aside0.mk A270
        clear A270
        by_cases c28 : t125 = true
        · subst c28
          have H1 : ((spec_l1In.f a0_1 0 2147483647).bind fun t126 => (if t126 = true then (some (decide ((l0_2.length : Int) ≤ 100))) else (some false))) = some r := by rw [if_pos rfl] at H; exact H
          clear H
          have H := H1
          clear H1
          replace H := Option.bind_eq_some_iff.mp H
          obtain ⟨t126, A290, H⟩ := H
          replace H : (if t126 = true then (some (decide ((l0_2.length : Int) ≤ 100))) else (some false)) = some r := H
          have A29 := Aside0.mk A290
          clear A290
          by_cases c30 : t126 = true
          · subst c30
            have H1 : (some (decide ((l0_2.length : Int) ≤ 100))) = some r := by rw [if_pos rfl] at H; exact H
            clear H
            have H := H1
            clear H1
            obtain rfl := Option.some.inj H
            obtain ⟨hcz31_0, hcz31_1, hcz31_2, hfz31_0, hfz31_1, hfz31_2⟩ := blk_all3 BK120.out
            go_wp2_with (first | (go_at_call 38; (with_reducible refine (spec_l1In.calls a0_0 0 2147483647 true _ A27.out).mono ?_); rintro e w' ⟨rfl, ⟨nd, rfl⟩⟩; (try first | exact ⟨rfl, _, World.drewN_drewN _ _ _⟩ | exact ⟨rfl, _, Eq.trans (World.drewN_drewN _ _ _) (congrArg (World.drewN _) (Nat.add_assoc _ _ _))⟩)) | (go_at_call 38; (with_reducible refine (spec_l1In.calls a0_1 0 2147483647 true _ A29.out).mono ?_); rintro e w' ⟨rfl, ⟨nd, rfl⟩⟩; (try first | exact ⟨rfl, _, World.drewN_drewN _ _ _⟩ | exact ⟨rfl, _, Eq.trans (World.drewN_drewN _ _ _) (congrArg (World.drewN _) (Nat.add_assoc _ _ _))⟩)))
            repeat (go_quiet (first | (go_at_call 38; (with_reducible refine (spec_l1In.calls a0_0 0 2147483647 true _ A27.out).mono ?_); rintro e w' ⟨rfl, ⟨nd, rfl⟩⟩; (try first | exact ⟨rfl, _, World.drewN_drewN _ _ _⟩ | exact ⟨rfl, _, Eq.trans (World.drewN_drewN _ _ _) (congrArg (World.drewN _) (Nat.add_assoc _ _ _))⟩)) | (go_at_call 38; (with_reducible refine (spec_l1In.calls a0_1 0 2147483647 true _ A29.out).mono ?_); rintro e w' ⟨rfl, ⟨nd, rfl⟩⟩; (try first | exact ⟨rfl, _, World.drewN_drewN _ _ _⟩ | exact ⟨rfl, _, Eq.trans (World.drewN_drewN _ _ _) (congrArg (World.drewN _) (Nat.add_assoc _ _ _))⟩))); try go_wp2_with (first | (go_at_call 38; (with_reducible refine (spec_l1In.calls a0_0 0 2147483647 true _ A27.out).mono ?_); rintro e w' ⟨rfl, ⟨nd, rfl⟩⟩; (try first | exact ⟨rfl, _, World.drewN_drewN _ _ _⟩ | exact ⟨rfl, _, Eq.trans (World.drewN_drewN _ _ _) (congrArg (World.drewN _) (Nat.add_assoc _ _ _))⟩)) | (go_at_call 38; (with_reducible refine (spec_l1In.calls a0_1 0 2147483647 true _ A29.out).mono ?_); rintro e w' ⟨rfl, ⟨nd, rfl⟩⟩; (try first | exact ⟨rfl, _, World.drewN_drewN _ _ _⟩ | exact ⟨rfl, _, Eq.trans (World.drewN_drewN _ _ _) (congrArg (World.drewN _) (Nat.add_assoc _ _ _))⟩))))
            go_ret
            exact ⟨by first | rfl | (simp [errW_none, errW_some] <;> rfl) | (simp [*, errW_none, errW_some] <;> rfl), zb1_ HB.out GE120.out⟩
          · replace c30 := Bool.eq_false_iff.mpr c30
            subst c30
            have H1 : (some false) = some r := by rw [if_neg (show ¬ (false = true) by decide)] at H; exact H
            clear H
            have H := H1
            clear H1
            obtain rfl := Option.some.inj H
            obtain ⟨hcz32_0, hcz32_1, hcz32_2, hfz32_0, hfz32_1, hfz32_2⟩ := blk_all3 BK120.out
            go_wp2_with (first | (go_at_call 38; (with_reducible refine (spec_l1In.calls a0_0 0 2147483647 true _ A27.out).mono ?_); rintro e w' ⟨rfl, ⟨nd, rfl⟩⟩; (try first | exact ⟨rfl, _, World.drewN_drewN _ _ _⟩ | exact ⟨rfl, _, Eq.trans (World.drewN_drewN _ _ _) (congrArg (World.drewN _) (Nat.add_assoc _ _ _))⟩)) | (go_at_call 38; (with_reducible refine (spec_l1In.calls a0_1 0 2147483647 false _ A29.out).mono ?_); rintro e w' ⟨rfl, ⟨nd, rfl⟩⟩; (try first | exact ⟨rfl, _, World.drewN_drewN _ _ _⟩ | exact ⟨rfl, _, Eq.trans (World.drewN_drewN _ _ _) (congrArg (World.drewN _) (Nat.add_assoc _ _ _))⟩)))
            repeat (go_quiet (first | (go_at_call 38; (with_reducible refine (spec_l1In.calls a0_0 0 2147483647 true _ A27.out).mono ?_); rintro e w' ⟨rfl, ⟨nd, rfl⟩⟩; (try first | exact ⟨rfl, _, World.drewN_drewN _ _ _⟩ | exact ⟨rfl, _, Eq.trans (World.drewN_drewN _ _ _) (congrArg (World.drewN _) (Nat.add_assoc _ _ _))⟩)) | (go_at_call 38; (with_reducible refine (spec_l1In.calls a0_1 0 2147483647 false _ A29.out).mono ?_); rintro e w' ⟨rfl, ⟨nd, rfl⟩⟩; (try first | exact ⟨rfl, _, World.drewN_drewN _ _ _⟩ | exact ⟨rfl, _, Eq.trans (World.drewN_drewN _ _ _) (congrArg (World.drewN _) (Nat.add_assoc _ _ _))⟩))); try go_wp2_with (first | (go_at_call 38; (with_reducible refine (spec_l1In.calls a0_0 0 2147483647 true _ A27.out).mono ?_); rintro e w' ⟨rfl, ⟨nd, rfl⟩⟩; (try first | exact ⟨rfl, _, World.drewN_drewN _ _ _⟩ | exact ⟨rfl, _, Eq.trans (World.drewN_drewN _ _ _) (congrArg (World.drewN _) (Nat.add_assoc _ _ _))⟩)) | (go_at_call 38; (with_reducible refine (spec_l1In.calls a0_1 0 2147483647 false _ A29.out).mono ?_); rintro e w' ⟨rfl, ⟨nd, rfl⟩⟩; (try first | exact ⟨rfl, _, World.drewN_drewN _ _ _⟩ | exact ⟨rfl, _, Eq.trans (World.drewN_drewN _ _ _) (congrArg (World.drewN _) (Nat.add_assoc _ _ _))⟩))))
            go_ret
            exact ⟨by first | rfl | (simp [errW_none, errW_some] <;> rfl) | (simp [*, errW_none, errW_some] <;> rfl), zb1_ HB.out GE120.out⟩
        · replace c28 := Bool.eq_false_iff.mpr c28
          subst c28
          have H1 : (some false) = some r := by rw [if_neg (show ¬ (false = true) by decide)] at H; exact H
          clear H
          have H := H1
          clear H1
          obtain rfl := Option.some.inj H
          obtain ⟨hcz33_0, hcz33_1, hcz33_2, hfz33_0, hfz33_1, hfz33_2⟩ := blk_all3 BK120.out
          go_wp2_with (first | (go_at_call 38; (with_reducible refine (spec_l1In.calls a0_0 0 2147483647 false _ A27.out).mono ?_); rintro e w' ⟨rfl, ⟨nd, rfl⟩⟩; (try first | exact ⟨rfl, _, World.drewN_drewN _ _ _⟩ | exact ⟨rfl, _, Eq.trans (World.drewN_drewN _ _ _) (congrArg (World.drewN _) (Nat.add_assoc _ _ _))⟩)))
          repeat (go_quiet (first | (go_at_call 38; (with_reducible refine (spec_l1In.calls a0_0 0 2147483647 false _ A27.out).mono ?_); rintro e w' ⟨rfl, ⟨nd, rfl⟩⟩; (try first | exact ⟨rfl, _, World.drewN_drewN _ _ _⟩ | exact ⟨rfl, _, Eq.trans (World.drewN_drewN _ _ _) (congrArg (World.drewN _) (Nat.add_assoc _ _ _))⟩))); try go_wp2_with (first | (go_at_call 38; (with_reducible refine (spec_l1In.calls a0_0 0 2147483647 false _ A27.out).mono ?_); rintro e w' ⟨rfl, ⟨nd, rfl⟩⟩; (try first | exact ⟨rfl, _, World.drewN_drewN _ _ _⟩ | exact ⟨rfl, _, Eq.trans (World.drewN_drewN _ _ _) (congrArg (World.drewN _) (Nat.add_assoc _ _ _))⟩))))
          go_ret
          exact ⟨by first | rfl | (simp [errW_none, errW_some] <;> rfl) | (simp [*, errW_none, errW_some] <;> rfl), zb1_ HB.out GE120.out⟩

/-! ### spec_l10Ends: function 48 -/
def spec_l10Ends.j0 : Nat → Bool → Int → Int → List (S48) → Int → Int → List (S48) → Option (Int × Int × (List (S48)) × Bool)
  | 0, _, _, _, _, _, _, _ => none
  | k + 1, x19, x128000, x128001, x128002, x129000, x129001, x129002 => if x19 = true then ((spec_l10Copy.f x128000 x128001 x128002).bind fun bt132 => (some (bt132.1, bt132.2.1, bt132.2.2, false))) else (some (x129000, x129001, x129002, true))
def spec_l10Ends.f (k : Nat) (a0_0 : Int) (a0_1 : Int) (l0_2 : List (S48)) (a1_0 : Int) (a1_1 : Int) (l1_2 : List (S48)) (a2 : Bool) : Option (Int × Int × (List (S48)) × Bool) := if a2 = true then ((spec_FlowOk.f k a0_0 a0_1 l0_2).bind fun t130 => (if t130 = true then ((spec_FlowOk.f k a1_0 a1_1 l1_2).bind fun t131 => (spec_l10Ends.j0 k (!t131) a0_0 a0_1 l0_2 a1_0 a1_1 l1_2)) else (spec_l10Ends.j0 k true a0_0 a0_1 l0_2 a1_0 a1_1 l1_2))) else (spec_l10Ends.j0 k true a0_0 a0_1 l0_2 a1_0 a1_1 l1_2)
theorem spec_l10Ends.mono_l : ∀ k, (∀ y0 y1 y2 y3 y4 y5 y6, LeO (spec_l10Ends.j0 k y0 y1 y2 y3 y4 y5 y6) (spec_l10Ends.j0 (k + 1) y0 y1 y2 y3 y4 y5 y6))
  | 0 => fun _ _ _ _ _ _ _ r h => by simp [spec_l10Ends.j0] at h
  | k + 1 => by
    have ih0 := spec_l10Ends.mono_l k
    · intro y0 y1 y2 y3 y4 y5 y6
      unfold spec_l10Ends.j0
      repeat' first
      | (with_reducible exact ih0 _ _ _ _ _ _ _)
      | (with_reducible exact spec_FlowOk.mono _ _ _ _)
      | (with_reducible exact LeO.refl _)
      | (with_reducible exact LeO.none _)
      | (with_reducible refine LeO.ite ?_ ?_)
      | (with_reducible refine LeO.bind ?_ (fun _ => ?_))
      | exact ih0 _ _ _ _ _ _ _
      | exact spec_FlowOk.mono _ _ _ _
      | exact LeO.none _
      | refine LeO.ite ?_ ?_
      | refine LeO.bind ?_ (fun _ => ?_)
theorem spec_l10Ends.mono : ∀ a0 a1 a2 a3 a4 a5 a6 k, LeO (spec_l10Ends.f k a0 a1 a2 a3 a4 a5 a6) (spec_l10Ends.f (k + 1) a0 a1 a2 a3 a4 a5 a6) := by
  intro a0 a1 a2 a3 a4 a5 a6 k
  have ih0 := spec_l10Ends.mono_l k
  unfold spec_l10Ends.f
  repeat' first
      | (with_reducible exact ih0 _ _ _ _ _ _ _)
      | (with_reducible exact spec_FlowOk.mono _ _ _ _)
      | (with_reducible exact LeO.refl _)
      | (with_reducible exact LeO.none _)
      | (with_reducible refine LeO.ite ?_ ?_)
      | (with_reducible refine LeO.bind ?_ (fun _ => ?_))
      | exact ih0 _ _ _ _ _ _ _
      | exact spec_FlowOk.mono _ _ _ _
      | exact LeO.none _
      | refine LeO.ite ?_ ?_
      | refine LeO.bind ?_ (fun _ => ?_)
set_option maxHeartbeats 8000000 in
set_option maxRecDepth 100000 in
theorem spec_l10Ends.calls (k : Nat) (a0_0 : Int) (a0_1 : Int) (A0_2 : Option Addr) (c0_2 : Nat) (l0_2 : List (S48)) (a1_0 : Int) (a1_1 : Int) (P1_2_ : Nat → Prop) (u9000_ : Value) (l1_2 : List (S48)) (a2 : Bool) (r1 : Int) (r2 : Int) (r3 : List (S48)) (r4 : Bool) (w0 w : World) (hB : Below w0.heap.size w0 w) (hr0_2 : ∀ W_, Kept w W_ (fun k_ => P1_2_ k_) → Kd.C k48 W_ A0_2 l0_2.length l0_2) (hc0_2 : l0_2.length ≤ c0_2) (ho1_2 : Kd.R k48 48 w w0.heap.size P1_2_ u9000_ l1_2) (h : spec_l10Ends.f k a0_0 a0_1 l0_2 a1_0 a1_1 l1_2 a2 = some (r1, r2, r3, r4)) :
    Calls Try.prog 48 #[.agg #[.int .i64 a0_0, .int .i64 a0_1, .slice A0_2 l0_2.length c0_2], .agg #[.int .i64 a1_0, .int .i64 a1_1, u9000_], .bool a2] w fun e w' => ∃ v2_ : Value, e = .returned (.tuple #[.agg #[.int .i64 r1, .int .i64 r2, v2_], .bool r4]) ∧ Kd.R k48 48 w' w0.heap.size (fun k_ => (P1_2_ k_ ∨ w.heap.size ≤ k_)) v2_ r3 ∧ Below w0.heap.size w0 w' ∧ Kept w w' (fun k_ => P1_2_ k_) := by
  have hu24 := Try.underlying24
  have HR0_2 := Aside0.mk hr0_2
  have HC0_2 := Aside0.mk hc0_2
  clear hr0_2 hc0_2
  have HO1_2 := As_ (show Kd.R k48 48 w w0.heap.size (fun k_ => (P1_2_ k_ ∨ w.heap.size ≤ k_)) u9000_ l1_2 from Kd.R_mono ho1_2 (fun k_ hk => (.inl hk)))
  have HK := As_ (Kept.refl w (fun k_ => P1_2_ k_))
  have HW0 := Aside0.mk hB.size
  have HB := Aside0.mk hB
  clear hB
  have H : (if a2 = true then ((spec_FlowOk.f k a0_0 a0_1 l0_2).bind fun t130 => (if t130 = true then ((spec_FlowOk.f k a1_0 a1_1 l1_2).bind fun t131 => (spec_l10Ends.j0 k (!t131) a0_0 a0_1 l0_2 a1_0 a1_1 l1_2)) else (spec_l10Ends.j0 k true a0_0 a0_1 l0_2 a1_0 a1_1 l1_2))) else (spec_l10Ends.j0 k true a0_0 a0_1 l0_2 a1_0 a1_1 l1_2)) = some (r1, r2, r3, r4) := h
  clear h
  have HC4 := Aside0.mk H
  clear H
  go_enter Try.func48, Try.ntmps48
  go_upto_region 1 with (first | ((with_reducible refine gate_dst (N := 3) rfl ?_); refine box_event ?hg (N := 3) ?hd (cs := #[.int .i64 a0_0, .int .i64 a0_1, .slice A0_2 l0_2.length c0_2]) (t := 24) ?hr ?_; (case hd => rfl); (case hg => rfl); (case hr => first | (go_simp; done) | (go_simp; rfl)); intro gb127 hg w5 hbox hb; have n0_ := As_ (Kd.R_below (rk_ HO1_2.out) hb); have n1_ := As_ (Kept.below (S := (fun k_ => P1_2_ k_)) (by repeat (first | (with_reducible first | exact HK.out | apply Kept.alloc | apply Kept.drewN | apply Kept.drew) | exact HK.out)) hb); have n2_ := As_ (below_step (zb0_ HB.out) hb); have n3_ := As_ (hbox); have n4_ := As_ ((by rw [hg]; exact (by first | exact HK.out.1 | exact (show Kept w _ (fun k_ => P1_2_ k_) from by repeat (first | (with_reducible first | exact HK.out | apply Kept.alloc | apply Kept.drewN | apply Kept.drew) | exact HK.out)).1) : w.heap.size ≤ gb127)); have n5_ := As_ ((sb_ hg (zb0_ HB.out) : w0.heap.size ≤ gb127)); clear HO1_2 HK HB; have HO1_2 := n0_; have HK := n1_; have HB := n2_; have BK127 := n3_; have GW127 := n4_; have GE127 := n5_; clear n0_ n1_ n2_ n3_ n4_ n5_ hb hbox hg; obtain ⟨Ao6, co6, eo6⟩ := Kd.R_slice HO1_2.out; subst eo6) | ((with_reducible refine gate_dst (N := 4) rfl ?_); refine box_event ?hg (N := 4) ?hd (cs := #[.int .i64 a1_0, .int .i64 a1_1, .slice Ao6 l1_2.length co6]) (t := 24) ?hr ?_; (case hd => rfl); (case hg => rfl); (case hr => first | (go_simp; done) | (go_simp; rfl)); intro gb128 hg w7 hbox hb; have n0_ := As_ (Kd.R_below (rk_ HO1_2.out) hb); have n1_ := As_ (blk_below (g := gb127) (o := .cells #[.int .i64 a0_0, .int .i64 a0_1, .slice A0_2 l0_2.length c0_2] 24 (0, 0)) (ak_ BK127.out) hb); have n2_ := As_ (Kept.below (S := (fun k_ => P1_2_ k_)) (by repeat (first | (with_reducible first | exact HK.out | apply Kept.alloc | apply Kept.drewN | apply Kept.drew | refine Kept.setCell ?_ (.inr GW127.out) _) | exact HK.out)) hb); have n3_ := As_ (below_step (zb1_ HB.out GE127.out) hb); have n4_ := As_ (hbox); have n5_ := As_ ((by rw [hg]; exact (by first | exact HK.out.1 | exact (show Kept w _ (fun k_ => P1_2_ k_) from by repeat (first | (with_reducible first | exact HK.out | apply Kept.alloc | apply Kept.drewN | apply Kept.drew | refine Kept.setCell ?_ (.inr GW127.out) _) | exact HK.out)).1) : w.heap.size ≤ gb128)); have n6_ := As_ ((sb_ hg (zb1_ HB.out GE127.out) : w0.heap.size ≤ gb128)); have n7_ := As_ ((nl_ hg BK127.out : gb127 ≠ gb128)); have n8_ := As_ ((ng_ hg BK127.out : gb128 ≠ gb127)); clear HO1_2 BK127 HK HB; have HO1_2 := n0_; have BK127 := n1_; have HK := n2_; have HB := n3_; have BK128 := n4_; have GW128 := n5_; have GE128 := n6_; have NB127_128 := n7_; have NB128_127 := n8_; clear n0_ n1_ n2_ n3_ n4_ n5_ n6_ n7_ n8_ hb hbox hg) | ((with_reducible refine gate_dst (N := 6) rfl ?_); refine box_event ?hg (N := 6) ?hd (cs := #[.int .i64 0, .int .i64 0, .slice none 0 0]) (t := 24) ?hr ?_; (case hd => rfl); (case hg => rfl); (case hr => first | (go_simp; done) | (go_simp; rfl)); intro gb129 hg w8 hbox hb; have n0_ := As_ (Kd.R_below (rk_ HO1_2.out) hb); have n1_ := As_ (blk_below (g := gb127) (o := .cells #[.int .i64 a0_0, .int .i64 a0_1, .slice A0_2 l0_2.length c0_2] 24 (0, 0)) (ak_ BK127.out) hb); have n2_ := As_ (blk_below (g := gb128) (o := .cells #[.int .i64 a1_0, .int .i64 a1_1, .slice Ao6 l1_2.length co6] 24 (0, 0)) (ak_ BK128.out) hb); have n3_ := As_ (Kept.below (S := (fun k_ => P1_2_ k_)) (by repeat (first | (with_reducible first | exact HK.out | apply Kept.alloc | apply Kept.drewN | apply Kept.drew | refine Kept.setCell ?_ (.inr GW127.out) _ | refine Kept.setCell ?_ (.inr GW128.out) _) | exact HK.out)) hb); have n4_ := As_ (below_step (zb2_ HB.out GE127.out GE128.out) hb); have n5_ := As_ (hbox); have n6_ := As_ ((by rw [hg]; exact (by first | exact HK.out.1 | exact (show Kept w _ (fun k_ => P1_2_ k_) from by repeat (first | (with_reducible first | exact HK.out | apply Kept.alloc | apply Kept.drewN | apply Kept.drew | refine Kept.setCell ?_ (.inr GW127.out) _ | refine Kept.setCell ?_ (.inr GW128.out) _) | exact HK.out)).1) : w.heap.size ≤ gb129)); have n7_ := As_ ((sb_ hg (zb2_ HB.out GE127.out GE128.out) : w0.heap.size ≤ gb129)); have n8_ := As_ ((nl_ hg BK127.out : gb127 ≠ gb129)); have n9_ := As_ ((ng_ hg BK127.out : gb129 ≠ gb127)); have n10_ := As_ ((nl_ hg BK128.out : gb128 ≠ gb129)); have n11_ := As_ ((ng_ hg BK128.out : gb129 ≠ gb128)); clear HO1_2 BK127 BK128 HK HB; have HO1_2 := n0_; have BK127 := n1_; have BK128 := n2_; have HK := n3_; have HB := n4_; have BK129 := n5_; have GW129 := n6_; have GE129 := n7_; have NB127_129 := n8_; have NB129_127 := n9_; have NB128_129 := n10_; have NB129_128 := n11_; clear n0_ n1_ n2_ n3_ n4_ n5_ n6_ n7_ n8_ n9_ n10_ n11_ hb hbox hg))
  (try simp only [Act.put, List.setIfInBounds_toArray, List.set_cons_zero, List.set_cons_succ])
  go_cut [19] (fun v19 wc => ∃ (kq : Nat) (x19_3 : Bool), v19 = .bool x19_3 ∧ Aside0 (spec_l10Ends.j0 kq x19_3 a0_0 a0_1 l0_2 a1_0 a1_1 l1_2 = some (r1, r2, r3, r4)) ∧ Aside0 (kq ≤ k) ∧ Aside0 (Kd.R k48 48 wc w0.heap.size (fun k_ => (P1_2_ k_ ∨ w.heap.size ≤ k_)) (.slice Ao6 l1_2.length co6) l1_2) ∧ Aside0 (wc.heap[gb127]? = some (.cells #[.int .i64 a0_0, .int .i64 a0_1, (.slice A0_2 l0_2.length c0_2)] 24 (0, 0))) ∧ Aside0 (wc.heap[gb128]? = some (.cells #[.int .i64 a1_0, .int .i64 a1_1, (.slice Ao6 l1_2.length co6)] 24 (0, 0))) ∧ Aside0 (wc.heap[gb129]? = some (.cells #[.int .i64 0, .int .i64 0, (.slice none 0 0)] 24 (0, 0))) ∧ Aside0 (Kept w wc (fun k_ => P1_2_ k_)) ∧ Aside0 (Below w0.heap.size w0 wc))
  case first =>
    have H := HC4.out
    clear HC4
    by_cases c9 : a2 = true
    · subst c9
      have H1 : ((spec_FlowOk.f k a0_0 a0_1 l0_2).bind fun t130 => (if t130 = true then ((spec_FlowOk.f k a1_0 a1_1 l1_2).bind fun t131 => (spec_l10Ends.j0 k (!t131) a0_0 a0_1 l0_2 a1_0 a1_1 l1_2)) else (spec_l10Ends.j0 k true a0_0 a0_1 l0_2 a1_0 a1_1 l1_2))) = some (r1, r2, r3, r4) := by rw [if_pos rfl] at H; exact H
      clear H
      have H := H1
      clear H1
      replace H := Option.bind_eq_some_iff.mp H
      obtain ⟨t130, A100, H⟩ := H
      replace H : (if t130 = true then ((spec_FlowOk.f k a1_0 a1_1 l1_2).bind fun t131 => (spec_l10Ends.j0 k (!t131) a0_0 a0_1 l0_2 a1_0 a1_1 l1_2)) else (spec_l10Ends.j0 k true a0_0 a0_1 l0_2 a1_0 a1_1 l1_2)) = some (r1, r2, r3, r4) := H
      have A10 := Aside0.mk A100
      clear A100
      by_cases c11 : t130 = true
      · subst c11
        have H1 : ((spec_FlowOk.f k a1_0 a1_1 l1_2).bind fun t131 => (spec_l10Ends.j0 k (!t131) a0_0 a0_1 l0_2 a1_0 a1_1 l1_2)) = some (r1, r2, r3, r4) := by rw [if_pos rfl] at H; exact H
        clear H
        have H := H1
        clear H1
        replace H := Option.bind_eq_some_iff.mp H
        obtain ⟨t131, A120, H⟩ := H
        replace H : (spec_l10Ends.j0 k (!t131) a0_0 a0_1 l0_2 a1_0 a1_1 l1_2) = some (r1, r2, r3, r4) := H
        have A12 := Aside0.mk A120
        clear A120
        have H' := Aside0.mk H
        clear H
        have hnb13 := NB127_128.out
        have hnc13 := NB128_127.out
        have hnb14 := NB127_129.out
        have hnc14 := NB129_127.out
        obtain ⟨hcz15_0, hcz15_1, hcz15_2, hfz15_0, hfz15_1, hfz15_2⟩ := blk_all3 BK127.out
        go_wp2_with (first | (go_at_call 19; (with_reducible refine (spec_FlowOk.calls k a0_0 a0_1 _ _ l0_2 true _ ?side1 ?side2 A10.out).mono ?_); (case side1 => exact Kd.C_kept_now HR0_2.out (by repeat (first | (with_reducible first | exact HK.out | apply Kept.alloc | apply Kept.drewN | apply Kept.drew | refine Kept.setCell ?_ (.inr GW127.out) _ | refine Kept.setCell ?_ (.inr GW128.out) _ | refine Kept.setCell ?_ (.inr GW129.out) _) | exact HK.out))); (case side2 => exact HC0_2.out); rintro e w16 ⟨rfl, hb⟩; replace HO1_2 := As_ (Kd.R_below (rk_ HO1_2.out) hb); replace BK127 := As_ (blk_below (g := gb127) (o := .cells #[.int .i64 a0_0, .int .i64 a0_1, .slice A0_2 l0_2.length c0_2] 24 (0, 0)) (ak_ BK127.out) hb); replace BK128 := As_ (blk_below (g := gb128) (o := .cells #[.int .i64 a1_0, .int .i64 a1_1, .slice Ao6 l1_2.length co6] 24 (0, 0)) (ak_ BK128.out) hb); replace BK129 := As_ (blk_below (g := gb129) (o := .cells #[.int .i64 0, .int .i64 0, .slice none 0 0] 24 (0, 0)) (ak_ BK129.out) hb); replace HK := As_ (Kept.below (S := (fun k_ => P1_2_ k_)) (by repeat (first | (with_reducible first | exact HK.out | apply Kept.alloc | apply Kept.drewN | apply Kept.drew | refine Kept.setCell ?_ (.inr GW127.out) _ | refine Kept.setCell ?_ (.inr GW128.out) _ | refine Kept.setCell ?_ (.inr GW129.out) _) | exact HK.out)) hb); replace HB := As_ (below_step (zb3_ HB.out GE127.out GE128.out GE129.out) hb); (try clear hb); (try clear hb2); (try clear hk); (try clear hi); have hnb17 := NB128_129.out; have hnc17 := NB129_128.out; obtain ⟨hcz18_0, hcz18_1, hcz18_2, hfz18_0, hfz18_1, hfz18_2⟩ := blk_all3 BK128.out) | (go_at_call 19; (with_reducible refine (spec_FlowOk.calls k a1_0 a1_1 _ _ l1_2 t131 _ ?side1 ?side2 A12.out).mono ?_); (case side1 => repeat (first | exact (Kd.R_reads' HO1_2.out).2.2 | (with_reducible first | apply cA_ | apply cN_ | apply cD_))); (case side2 => exact (Kd.R_reads' HO1_2.out).2.1); rintro e w19 ⟨rfl, hb⟩; replace HO1_2 := As_ (Kd.R_below (rk_ HO1_2.out) hb); replace BK127 := As_ (blk_below (g := gb127) (o := .cells #[.int .i64 a0_0, .int .i64 a0_1, .slice A0_2 l0_2.length c0_2] 24 (0, 0)) (ak_ BK127.out) hb); replace BK128 := As_ (blk_below (g := gb128) (o := .cells #[.int .i64 a1_0, .int .i64 a1_1, .slice Ao6 l1_2.length co6] 24 (0, 0)) (ak_ BK128.out) hb); replace BK129 := As_ (blk_below (g := gb129) (o := .cells #[.int .i64 0, .int .i64 0, .slice none 0 0] 24 (0, 0)) (ak_ BK129.out) hb); replace HK := As_ (Kept.below (S := (fun k_ => P1_2_ k_)) (by repeat (first | (with_reducible first | exact HK.out | apply Kept.alloc | apply Kept.drewN | apply Kept.drew | refine Kept.setCell ?_ (.inr GW127.out) _ | refine Kept.setCell ?_ (.inr GW128.out) _ | refine Kept.setCell ?_ (.inr GW129.out) _) | exact HK.out)) hb); replace HB := As_ (below_step (zb3_ HB.out GE127.out GE128.out GE129.out) hb); (try clear hb); (try clear hb2); (try clear hk); (try clear hi)))
        go_meet
        case rel => exact ⟨_, (!t131), (by first | rfl | (simp; done) | (simp [*]; done)), H', ⟨by first | omega | exact Nat.le_refl _⟩, ⟨rk_ HO1_2.out⟩, ⟨ak_ BK127.out⟩, ⟨ak_ BK128.out⟩, ⟨ak_ BK129.out⟩, ⟨by repeat (first | (with_reducible first | exact HK.out | apply Kept.alloc | apply Kept.drewN | apply Kept.drew | refine Kept.setCell ?_ (.inr GW127.out) _ | refine Kept.setCell ?_ (.inr GW128.out) _ | refine Kept.setCell ?_ (.inr GW129.out) _) | exact HK.out)⟩, ⟨zb3_ HB.out GE127.out GE128.out GE129.out⟩⟩
      · replace c11 := Bool.eq_false_iff.mpr c11
        subst c11
        have H1 : (spec_l10Ends.j0 k true a0_0 a0_1 l0_2 a1_0 a1_1 l1_2) = some (r1, r2, r3, r4) := by rw [if_neg (show ¬ (false = true) by decide)] at H; exact H
        clear H
        have H := H1
        clear H1
        have H' := Aside0.mk H
        clear H
        have hnb20 := NB127_128.out
        have hnc20 := NB128_127.out
        have hnb21 := NB127_129.out
        have hnc21 := NB129_127.out
        obtain ⟨hcz22_0, hcz22_1, hcz22_2, hfz22_0, hfz22_1, hfz22_2⟩ := blk_all3 BK127.out
        go_wp2_with (first | (go_at_call 19; (with_reducible refine (spec_FlowOk.calls k a0_0 a0_1 _ _ l0_2 false _ ?side1 ?side2 A10.out).mono ?_); (case side1 => exact Kd.C_kept_now HR0_2.out (by repeat (first | (with_reducible first | exact HK.out | apply Kept.alloc | apply Kept.drewN | apply Kept.drew | refine Kept.setCell ?_ (.inr GW127.out) _ | refine Kept.setCell ?_ (.inr GW128.out) _ | refine Kept.setCell ?_ (.inr GW129.out) _) | exact HK.out))); (case side2 => exact HC0_2.out); rintro e w23 ⟨rfl, hb⟩; replace HO1_2 := As_ (Kd.R_below (rk_ HO1_2.out) hb); replace BK127 := As_ (blk_below (g := gb127) (o := .cells #[.int .i64 a0_0, .int .i64 a0_1, .slice A0_2 l0_2.length c0_2] 24 (0, 0)) (ak_ BK127.out) hb); replace BK128 := As_ (blk_below (g := gb128) (o := .cells #[.int .i64 a1_0, .int .i64 a1_1, .slice Ao6 l1_2.length co6] 24 (0, 0)) (ak_ BK128.out) hb); replace BK129 := As_ (blk_below (g := gb129) (o := .cells #[.int .i64 0, .int .i64 0, .slice none 0 0] 24 (0, 0)) (ak_ BK129.out) hb); replace HK := As_ (Kept.below (S := (fun k_ => P1_2_ k_)) (by repeat (first | (with_reducible first | exact HK.out | apply Kept.alloc | apply Kept.drewN | apply Kept.drew | refine Kept.setCell ?_ (.inr GW127.out) _ | refine Kept.setCell ?_ (.inr GW128.out) _ | refine Kept.setCell ?_ (.inr GW129.out) _) | exact HK.out)) hb); replace HB := As_ (below_step (zb3_ HB.out GE127.out GE128.out GE129.out) hb); (try clear hb); (try clear hb2); (try clear hk); (try clear hi)))
        go_meet
        case rel => exact ⟨_, (true), (by first | rfl | (simp; done) | (simp [*]; done)), H', ⟨by first | omega | exact Nat.le_refl _⟩, ⟨rk_ HO1_2.out⟩, ⟨ak_ BK127.out⟩, ⟨ak_ BK128.out⟩, ⟨ak_ BK129.out⟩, ⟨by repeat (first | (with_reducible first | exact HK.out | apply Kept.alloc | apply Kept.drewN | apply Kept.drew | refine Kept.setCell ?_ (.inr GW127.out) _ | refine Kept.setCell ?_ (.inr GW128.out) _ | refine Kept.setCell ?_ (.inr GW129.out) _) | exact HK.out)⟩, ⟨zb3_ HB.out GE127.out GE128.out GE129.out⟩⟩
    · replace c9 := Bool.eq_false_iff.mpr c9
      subst c9
      have H1 : (spec_l10Ends.j0 k true a0_0 a0_1 l0_2 a1_0 a1_1 l1_2) = some (r1, r2, r3, r4) := by rw [if_neg (show ¬ (false = true) by decide)] at H; exact H
      clear H
      have H := H1
      clear H1
      have H' := Aside0.mk H
      clear H
      go_wp2
      go_meet
      case rel => exact ⟨_, (true), (by first | rfl | (simp; done) | (simp [*]; done)), H', ⟨by first | omega | exact Nat.le_refl _⟩, ⟨rk_ HO1_2.out⟩, ⟨ak_ BK127.out⟩, ⟨ak_ BK128.out⟩, ⟨ak_ BK129.out⟩, ⟨by repeat (first | (with_reducible first | exact HK.out | apply Kept.alloc | apply Kept.drewN | apply Kept.drew | refine Kept.setCell ?_ (.inr GW127.out) _ | refine Kept.setCell ?_ (.inr GW128.out) _ | refine Kept.setCell ?_ (.inr GW129.out) _) | exact HK.out)⟩, ⟨zb3_ HB.out GE127.out GE128.out GE129.out⟩⟩
  case rest =>
    clear HC4
    try clear c1
    try clear c2
    try clear p2
    try clear c4
    try clear c9
    try clear c11
    try clear c13
    try clear c14
    try clear c17
    try clear c20
    try clear c21
    try clear hcz15_0
    try clear hcz15_1
    try clear hcz15_2
    try clear hcz18_0
    try clear hcz18_1
    try clear hcz18_2
    try clear hcz22_0
    try clear hcz22_1
    try clear hcz22_2
    try clear hfz15_0
    try clear hfz15_1
    try clear hfz15_2
    try clear hfz18_0
    try clear hfz18_1
    try clear hfz18_2
    try clear hfz22_0
    try clear hfz22_1
    try clear hfz22_2
    obtain ⟨kq, x19_3, rfl, HA, HJ3, HO_129002, BK127, BK128, BK129, HK, HB⟩ := hcut
    cases kq with
    | zero => exact absurd HA.out (by simp [spec_l10Ends.j0])
    | succ kj3 =>
      have H := HA.out
      clear HA
      simp only [spec_l10Ends.j0] at H
      by_cases c24 : x19_3 = true
      · subst c24
        have H1 : ((spec_l10Copy.f a0_0 a0_1 l0_2).bind fun bt132 => (some (bt132.1, bt132.2.1, bt132.2.2, false))) = some (r1, r2, r3, r4) := by rw [if_pos rfl] at H; exact H
        clear H
        have H := H1
        clear H1
        replace H := Option.bind_eq_some_iff.mp H
        obtain ⟨⟨t132, t133, t134⟩, A250, H⟩ := H
        replace H : (some (t132, t133, t134, false)) = some (r1, r2, r3, r4) := H
        have A25 := Aside0.mk A250
        clear A250
        simp only [Option.some.injEq, Prod.mk.injEq] at H
        obtain ⟨rfl, rfl, rfl, rfl⟩ := H
        have hnb26 := NB127_128.out
        have hnc26 := NB128_127.out
        have hnb27 := NB127_129.out
        have hnc27 := NB129_127.out
        obtain ⟨hcz28_0, hcz28_1, hcz28_2, hfz28_0, hfz28_1, hfz28_2⟩ := blk_all3 BK127.out
        go_wp2_with (first | ((with_reducible refine gate_callee (f := 47) rfl ?_); refine goesL_ (some 21) rfl rfl Try.func47 (by kernel_rfl) rfl #[.agg #[.int .i64 a0_0, .int .i64 a0_1, .slice A0_2 l0_2.length c0_2]] rfl tm_ ?_; (with_reducible refine (spec_l10Copy.calls a0_0 a0_1 _ _ l0_2 t132 t133 t134 _ ?side1 ?side2 A25.out).mono ?_); (case side1 => exact Kd.C_kept_now HR0_2.out (by repeat (first | (with_reducible first | exact HK.out | apply Kept.alloc | apply Kept.drewN | apply Kept.drew | refine Kept.setCell ?_ (.inr GW127.out) _ | refine Kept.setCell ?_ (.inr GW128.out) _ | refine Kept.setCell ?_ (.inr GW129.out) _) | exact HK.out))); (case side2 => exact HC0_2.out); rintro e w29 ⟨v135, rfl, ho0, hb⟩; refine ⟨_, rfl, ?_⟩; have n0_ := As_ (Kd.R_elder' (rk_ HO_129002.out) (Kd.R_base ho0) hb); have HO136 := As_ (Kd.R_lower (Kd.R_new' (Kd.R_newM (M := fun k_ => (P1_2_ k_ ∨ w.heap.size ≤ k_)) ho0 (by first | exact HK.out.1 | exact (show Kept w _ (fun k_ => P1_2_ k_) from by repeat (first | (with_reducible first | exact HK.out | apply Kept.alloc | apply Kept.drewN | apply Kept.drew | refine Kept.setCell ?_ (.inr GW127.out) _ | refine Kept.setCell ?_ (.inr GW128.out) _ | refine Kept.setCell ?_ (.inr GW129.out) _) | exact HK.out)).1) (fun k_ h_ => .inr h_)) (Kd.R_lt (rk_ HO_129002.out))) (below_size (zb3_ HB.out GE127.out GE128.out GE129.out))); replace BK127 := As_ (blk_below (g := gb127) (o := .cells #[.int .i64 a0_0, .int .i64 a0_1, .slice A0_2 l0_2.length c0_2] 24 (0, 0)) (ak_ BK127.out) hb); replace BK128 := As_ (blk_below (g := gb128) (o := .cells #[.int .i64 a1_0, .int .i64 a1_1, .slice Ao6 l1_2.length co6] 24 (0, 0)) (ak_ BK128.out) hb); replace BK129 := As_ (blk_below (g := gb129) (o := .cells #[.int .i64 0, .int .i64 0, .slice none 0 0] 24 (0, 0)) (ak_ BK129.out) hb); replace HK := As_ (Kept.below (S := (fun k_ => P1_2_ k_)) (by repeat (first | (with_reducible first | exact HK.out | apply Kept.alloc | apply Kept.drewN | apply Kept.drew | refine Kept.setCell ?_ (.inr GW127.out) _ | refine Kept.setCell ?_ (.inr GW128.out) _ | refine Kept.setCell ?_ (.inr GW129.out) _) | exact HK.out)) hb); replace HB := As_ (below_step (zb3_ HB.out GE127.out GE128.out GE129.out) hb); clear HO_129002; have HO_129002 := n0_; clear n0_; (try clear hb); (try clear hb2); (try clear hk); (try clear hi); (try clear ho0); have hnb30 := NB129_128.out; have hnc30 := NB128_129.out; obtain ⟨hcz31_0, hcz31_1, hcz31_2, hfz31_0, hfz31_1, hfz31_2⟩ := blk_all3 BK129.out; obtain ⟨Ao32, co32, eo32⟩ := Kd.R_slice HO136.out; subst eo32))
        refine bodyPost_ret (results_ct rfl _ _ gb129 24 #[.int .i64 t132, .int .i64 t133, .slice Ao32 t134.length co32] (0, 0) _ rfl (ap_ BK129.out) Try.underlying24 rfl (by kernel_rfl)) rfl ?_
        exact ⟨_, by first | rfl | (simp [errW_none, errW_some] <;> rfl) | (simp [*, errW_none, errW_some] <;> rfl), by (with_reducible repeat (first | apply rA_ | apply rN_ | apply rD_)); exact Kd.R_mono (Kd.R_far (p := ⟨gb129, 2, none⟩) (Kd.R_far (p := ⟨gb129, 1, none⟩) (Kd.R_far (p := ⟨gb129, 0, none⟩) (Kd.R_types HO136.out BK129.out (by decide)) (fun _ hk => hk.2) (.int .i64 t132)) (fun _ hk => hk.2) (.int .i64 t133)) (fun _ hk => hk.2) (.slice Ao32 t134.length co32)) (fun _ hk => hk.1.1.1), zb3_ HB.out GE127.out GE128.out GE129.out, by repeat (first | (with_reducible first | exact HK.out | apply Kept.alloc | apply Kept.drewN | apply Kept.drew | refine Kept.setCell ?_ (.inr GW127.out) _ | refine Kept.setCell ?_ (.inr GW128.out) _ | refine Kept.setCell ?_ (.inr GW129.out) _) | exact HK.out)⟩
      · replace c24 := Bool.eq_false_iff.mpr c24
        subst c24
        have H1 : (some (a1_0, a1_1, l1_2, true)) = some (r1, r2, r3, r4) := by rw [if_neg (show ¬ (false = true) by decide)] at H; exact H
        clear H
        have H := H1
        clear H1
        simp only [Option.some.injEq, Prod.mk.injEq] at H
        obtain ⟨rfl, rfl, rfl, rfl⟩ := H
        have hnb33 := NB128_127.out
        have hnc33 := NB127_128.out
        have hnb34 := NB128_129.out
        have hnc34 := NB129_128.out
        obtain ⟨hcz35_0, hcz35_1, hcz35_2, hfz35_0, hfz35_1, hfz35_2⟩ := blk_all3 BK128.out
        have hnb36 := NB129_127.out
        have hnc36 := NB127_129.out
        obtain ⟨hcz37_0, hcz37_1, hcz37_2, hfz37_0, hfz37_1, hfz37_2⟩ := blk_all3 BK129.out
        go_wp2
        refine bodyPost_ret (results_ct rfl _ _ gb129 24 #[.int .i64 a1_0, .int .i64 a1_1, .slice Ao6 l1_2.length co6] (0, 0) _ rfl (ap_ BK129.out) Try.underlying24 rfl (by kernel_rfl)) rfl ?_
        exact ⟨_, by first | rfl | (simp [errW_none, errW_some] <;> rfl) | (simp [*, errW_none, errW_some] <;> rfl), by (with_reducible repeat (first | apply rA_ | apply rN_ | apply rD_)); exact Kd.R_mono (Kd.R_far (p := ⟨gb129, 2, none⟩) (Kd.R_far (p := ⟨gb129, 1, none⟩) (Kd.R_far (p := ⟨gb129, 0, none⟩) (Kd.R_types HO_129002.out BK129.out (by decide)) (fun _ hk => hk.2) (.int .i64 a1_0)) (fun _ hk => hk.2) (.int .i64 a1_1)) (fun _ hk => hk.2) (.slice Ao6 l1_2.length co6)) (fun _ hk => hk.1), zb3_ HB.out GE127.out GE128.out GE129.out, by repeat (first | (with_reducible first | exact HK.out | apply Kept.alloc | apply Kept.drewN | apply Kept.drew | refine Kept.setCell ?_ (.inr GW127.out) _ | refine Kept.setCell ?_ (.inr GW128.out) _ | refine Kept.setCell ?_ (.inr GW129.out) _) | exact HK.out)⟩

end Go.Proofs.Ytejnagdmfooemaa.QFnLanes
