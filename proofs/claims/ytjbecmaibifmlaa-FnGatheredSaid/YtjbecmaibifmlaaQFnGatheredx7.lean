/- Contracts of functions of the translation, each with its pure function; printed by a program of this session (wip/pr.py) over the kit's print; no condition of its own. -/
import Derived.Test.YtjbecmaibifmlaaQFnGatheredx0
import Derived.Test.YtjbecmaibifmlaaQFnGatheredx5
import Derived.Test.YtjbecmaibifmlaaQFnGatheredx6
namespace Go.Proofs.Ytjbecmaibifmlaa.QFnGathered
open Go.RowKit Go.Proofs.YtjbecmaibifmlaaW.PrintWords Go.Proofs.YtjbecmaibifmlaaW.PrintLast Go.Proofs.YtjbecmaibifmlaaW.PrintMore
attribute [local go_sem] max2_int min2_int max_two min_two max_three min_three max_four min_four   -- for this text's walks alone
set_option linter.unusedVariables false
set_option linter.unusedSimpArgs false

/-! ### impl_Unpad: function 62 -/
mutual
def impl_Unpad.j0 : Nat → List Int → Int → Int → Int → Int → List Int → Option (List Int × Bool)
  | 0, _, _, _, _, _, _ => none
  | k + 1, x4, x5, x215000, x215001, x215002, x215003 => if x215000 = 1 then ((impl_Frame_has.f x215000 x215001 x215002 x215003 32).bind fun t222 => (impl_Unpad.j1 k x4 x5 0 t222)) else (impl_Unpad.j1 k x4 x5 0 false)
def impl_Unpad.j1 : Nat → List Int → Int → Int → Bool → Option (List Int × Bool)
  | 0, _, _, _, _ => none
  | k + 1, x4, x5, x6, x26 => if x26 = true then (if (wrap64 (5 + x5)) > (x4.length : Int) then (some (([] : List Int), false)) else (if 5 ≤ (wrap64 ((x4.length : Int) - x5)) then (if (wrap64 ((x4.length : Int) - x5)) ≤ (x4.length : Int) then ((slices_Clone_byte_byte.f ((x4.take ((wrap64 ((x4.length : Int) - x5)) : Int).toNat).drop 5)).bind fun t228 => (some (t228, true))) else (none)) else (none))) else (if (wrap64 (x6 + x5)) > (x4.length : Int) then (some (([] : List Int), false)) else (if 0 ≤ x6 then (if x6 ≤ (wrap64 ((x4.length : Int) - x5)) then (if (wrap64 ((x4.length : Int) - x5)) ≤ (x4.length : Int) then ((slices_Clone_byte_byte.f ((x4.take ((wrap64 ((x4.length : Int) - x5)) : Int).toNat).drop (x6 : Int).toNat)).bind fun t236 => (some (t236, true))) else (none)) else (none)) else (none)))
end
def impl_Unpad.f (k : Nat) (a0_0 : Int) (a0_1 : Int) (a0_2 : Int) (l0_3 : List Int) : Option (List Int × Bool) := (impl_Frame_has.f a0_0 a0_1 a0_2 l0_3 8).bind fun t215 => (if t215 = true then (if (l0_3.length : Int) = 0 then (some (([] : List Int), false)) else (if 0 < (l0_3.length : Int) then (if 1 ≤ (l0_3.length : Int) then (impl_Unpad.j0 k (l0_3.drop 1) (wrap64 (rd l0_3 0)) a0_0 a0_1 a0_2 l0_3) else (none)) else (none))) else (impl_Unpad.j0 k l0_3 0 a0_0 a0_1 a0_2 l0_3))
theorem impl_Unpad.mono_l : ∀ k, (∀ y0 y1 y2 y3 y4 y5, LeO (impl_Unpad.j0 k y0 y1 y2 y3 y4 y5) (impl_Unpad.j0 (k + 1) y0 y1 y2 y3 y4 y5)) ∧ (∀ y0 y1 y2 y3, LeO (impl_Unpad.j1 k y0 y1 y2 y3) (impl_Unpad.j1 (k + 1) y0 y1 y2 y3))
  | 0 => ⟨fun _ _ _ _ _ _ r h => by simp [impl_Unpad.j0] at h, fun _ _ _ _ r h => by simp [impl_Unpad.j1] at h⟩
  | k + 1 => by
    obtain ⟨ih0, ih1⟩ := impl_Unpad.mono_l k
    refine ⟨?_, ?_⟩
    · intro y0 y1 y2 y3 y4 y5
      unfold impl_Unpad.j0
      repeat' first
      | (with_reducible exact ih0 _ _ _ _ _ _)
      | (with_reducible exact ih1 _ _ _ _)
      | (with_reducible exact LeO.refl _)
      | (with_reducible exact LeO.none _)
      | (with_reducible refine LeO.ite ?_ ?_)
      | (with_reducible refine LeO.bind ?_ (fun _ => ?_))
      | exact ih0 _ _ _ _ _ _
      | exact ih1 _ _ _ _
      | exact LeO.none _
      | refine LeO.ite ?_ ?_
      | refine LeO.bind ?_ (fun _ => ?_)
    · intro y0 y1 y2 y3
      unfold impl_Unpad.j1
      repeat' first
      | (with_reducible exact ih0 _ _ _ _ _ _)
      | (with_reducible exact ih1 _ _ _ _)
      | (with_reducible exact LeO.refl _)
      | (with_reducible exact LeO.none _)
      | (with_reducible refine LeO.ite ?_ ?_)
      | (with_reducible refine LeO.bind ?_ (fun _ => ?_))
      | exact ih0 _ _ _ _ _ _
      | exact ih1 _ _ _ _
      | exact LeO.none _
      | refine LeO.ite ?_ ?_
      | refine LeO.bind ?_ (fun _ => ?_)
theorem impl_Unpad.mono : ∀ a0 a1 a2 a3 k, LeO (impl_Unpad.f k a0 a1 a2 a3) (impl_Unpad.f (k + 1) a0 a1 a2 a3) := by
  intro a0 a1 a2 a3 k
  obtain ⟨ih0, ih1⟩ := impl_Unpad.mono_l k
  unfold impl_Unpad.f
  repeat' first
      | (with_reducible exact ih0 _ _ _ _ _ _)
      | (with_reducible exact ih1 _ _ _ _)
      | (with_reducible exact LeO.refl _)
      | (with_reducible exact LeO.none _)
      | (with_reducible refine LeO.ite ?_ ?_)
      | (with_reducible refine LeO.bind ?_ (fun _ => ?_))
      | exact ih0 _ _ _ _ _ _
      | exact ih1 _ _ _ _
      | exact LeO.none _
      | refine LeO.ite ?_ ?_
      | refine LeO.bind ?_ (fun _ => ?_)
set_option maxHeartbeats 8000000 in
set_option maxRecDepth 100000 in
theorem impl_Unpad.calls (k : Nat) (a0_0 : Int) (a0_1 : Int) (a0_2 : Int) (P0_3_ : Nat → Prop) (A0_3 : Option Addr) (c0_3 : Nat) (l0_3 : List Int) (r1 : List Int) (r2 : Bool) (w : World) (hs0_3 : Kd.V (Kd.int .u8) 5 w w.heap.size (fun k_ => P0_3_ k_) (.slice A0_3 l0_3.length c0_3) l0_3) (h : impl_Unpad.f k a0_0 a0_1 a0_2 l0_3 = some (r1, r2)) :
    Calls Try.prog 62 #[.agg #[.int .i64 a0_0, .int .i64 a0_1, .int .i64 a0_2, .slice A0_3 l0_3.length c0_3]] w fun e w' => ∃ v0_ : Value, e = .returned (.tuple #[v0_, .bool r2]) ∧ Kd.R (Kd.int .u8) 5 w' w.heap.size (fun k_ => (w.heap.size ≤ k_)) v0_ r1 ∧ Below w.heap.size w w' := by
  have hu45 := Try.underlying45
  have HO0_3 := As_ (show Kd.V (Kd.int .u8) 5 w w.heap.size (fun k_ => (P0_3_ k_ ∨ w.heap.size ≤ k_)) (.slice A0_3 l0_3.length c0_3) l0_3 from Kd.V_mono hs0_3 (fun k_ hk => .inl hk))
  have HB := As_ (Below.refl w.heap.size w)
  have H : ((impl_Frame_has.f a0_0 a0_1 a0_2 l0_3 8).bind fun t215 => (if t215 = true then (if (l0_3.length : Int) = 0 then (some (([] : List Int), false)) else (if 0 < (l0_3.length : Int) then (if 1 ≤ (l0_3.length : Int) then (impl_Unpad.j0 k (l0_3.drop 1) (wrap64 (rd l0_3 0)) a0_0 a0_1 a0_2 l0_3) else (none)) else (none))) else (impl_Unpad.j0 k l0_3 0 a0_0 a0_1 a0_2 l0_3))) = some (r1, r2) := h
  clear h
  replace H := Option.bind_eq_some_iff.mp H
  obtain ⟨t215, A20, H⟩ := H
  replace H : (if t215 = true then (if (l0_3.length : Int) = 0 then (some (([] : List Int), false)) else (if 0 < (l0_3.length : Int) then (if 1 ≤ (l0_3.length : Int) then (impl_Unpad.j0 k (l0_3.drop 1) (wrap64 (rd l0_3 0)) a0_0 a0_1 a0_2 l0_3) else (none)) else (none))) else (impl_Unpad.j0 k l0_3 0 a0_0 a0_1 a0_2 l0_3)) = some (r1, r2) := H
  have A2 := Aside0.mk A20
  clear A20
  have HC3 := Aside0.mk H
  clear H
  go_enter Try.func62, Try.ntmps62
  go_upto_if 10 with (first | ((with_reducible refine gate_dst (N := 1) rfl ?_); refine box_event ?hg (N := 1) ?hd (cs := #[.int .i64 a0_0, .int .i64 a0_1, .int .i64 a0_2, .slice A0_3 l0_3.length c0_3]) (t := 45) ?hr ?_; (case hd => rfl); (case hg => rfl); (case hr => first | (go_simp; done) | (go_simp; rfl)); intro gb214 hg w4 hbox hb; have n0_ := As_ (Kd.V_below (Kd.V_elderB (by (with_reducible repeat (first | apply Kd.V_alloc | apply Kd.V_drewN | apply Kd.V_drew)); exact HO0_3.out) gb214 (Nat.le_of_eq hg.symm)) hb); have n1_ := As_ (below_step (by repeat (first | (with_reducible first | exact HB.out | apply bA_ | apply bN_ | apply bD_) | exact HB.out)) hb); have n2_ := As_ (hbox); have n3_ := As_ ((by rw [hg]; exact (below_size (by repeat (first | (with_reducible first | exact HB.out | apply bA_ | apply bN_ | apply bD_) | exact HB.out))) : w.heap.size ≤ gb214)); have n4_ := As_ ((by rw [hg]; exact (below_size (by repeat (first | (with_reducible first | exact HB.out | apply bA_ | apply bN_ | apply bD_) | exact HB.out))) : w.heap.size ≤ gb214)); clear HO0_3 HB; have HO0_3 := n0_; have HB := n1_; have BK214 := n2_; have GW214 := n3_; have GE214 := n4_; clear n0_ n1_ n2_ n3_ n4_ hb hbox hg; obtain ⟨hcz5_0, hcz5_1, hcz5_2, hcz5_3, hfz5_0, hfz5_1, hfz5_2, hfz5_3⟩ := blk_all4 BK214.out) | ((with_reducible refine gate_callee (f := 63) rfl ?_); refine goesL_ (some 10) rfl rfl Try.func63 (by kernel_rfl) rfl #[.agg #[.int .i64 a0_0, .int .i64 a0_1, .int .i64 a0_2, .slice A0_3 l0_3.length c0_3], .int .i64 8] rfl (by (try simp only [List.map_toArray, List.map_cons, List.map_nil]); first | done | rfl | (simp only [List.length_drop, List.length_take]; rfl)) ?_; (with_reducible refine (impl_Frame_has.calls a0_0 a0_1 a0_2 _ _ l0_3 8 t215 _ ?side1 ?side2 A2.out).mono ?_); (case side1 => repeat (first | exact (Kd.V_reads' HO0_3.out).2.2 | (with_reducible first | apply cA_ | apply cN_ | apply cD_))); (case side2 => exact (Kd.V_reads' HO0_3.out).2.1); rintro e w6 ⟨rfl, hb⟩; refine ⟨_, rfl, ?_⟩; replace HO0_3 := As_ (Kd.V_below (by (with_reducible repeat (first | apply Kd.V_alloc | apply Kd.V_drewN | apply Kd.V_drew)); exact HO0_3.out) hb); replace BK214 := As_ (blk_below (g := gb214) (o := .cells #[.int .i64 a0_0, .int .i64 a0_1, .int .i64 a0_2, .slice A0_3 l0_3.length c0_3] 45 (0, 0)) (by (with_reducible repeat (first | apply kN_ | apply kD_ | apply kA_)); exact BK214.out) hb); replace HB := As_ (below_step (by repeat (first | (with_reducible first | exact HB.out | apply bA_ | apply bN_ | apply bD_ | refine bS_ ?_ GE214.out) | exact HB.out)) hb); (try clear hb); (try clear hb2); (try clear hk); (try clear hi)))
  (try simp only [Act.put, List.setIfInBounds_toArray, List.set_cons_zero, List.set_cons_succ])
  go_cut [4, 5] (fun v4 v5 wc => ∃ (kq : Nat) (x4_2 : List Int) (x5_2 : Int), v5 = .int .i64 x5_2 ∧ Aside0 (impl_Unpad.j0 kq x4_2 x5_2 a0_0 a0_1 a0_2 l0_3 = some (r1, r2)) ∧ Aside0 (kq ≤ k) ∧ Aside0 (Kd.V (Kd.int .u8) 5 wc w.heap.size (fun k_ => (P0_3_ k_ ∨ w.heap.size ≤ k_) ∧ k_ ≠ gb214) v4 x4_2) ∧ Aside0 (Kd.V (Kd.int .u8) 5 wc w.heap.size (fun k_ => (P0_3_ k_ ∨ w.heap.size ≤ k_) ∧ k_ ≠ gb214) (.slice A0_3 l0_3.length c0_3) l0_3) ∧ Aside0 (wc.heap[gb214]? = some (.cells #[.int .i64 a0_0, .int .i64 a0_1, .int .i64 a0_2, (.slice A0_3 l0_3.length c0_3)] 45 (0, 0))) ∧ Aside0 (Below w.heap.size w wc))
  case first =>
    have H := HC3.out
    clear HC3
    by_cases c7 : t215 = true
    · subst c7
      have H1 : (if (l0_3.length : Int) = 0 then (some (([] : List Int), false)) else (if 0 < (l0_3.length : Int) then (if 1 ≤ (l0_3.length : Int) then (impl_Unpad.j0 k (l0_3.drop 1) (wrap64 (rd l0_3 0)) a0_0 a0_1 a0_2 l0_3) else (none)) else (none))) = some (r1, r2) := by rw [if_pos rfl] at H; exact H
      clear H
      have H := H1
      clear H1
      by_cases c8 : (l0_3.length : Int) = 0
      · rw [if_pos c8] at H
        have c8b0 : ((l0_3.length : Int) == 0) = true := beq_iff_eq.mpr c8
        have c8b1 : ((l0_3.length : Int) != 0) = false := bne_eq_false_iff_eq.mpr c8
        clear c8
        (first | rw [c8b0] | (simp only [i64_w, i32_w]; rw [c8b0]) | skip)
        simp only [Option.some.injEq, Prod.mk.injEq] at H
        obtain ⟨rfl, rfl⟩ := H
        go_wp2
        go_ret2
        exact ⟨_, by first | rfl | (simp [errW_none, errW_some] <;> rfl) | (simp [*, errW_none, errW_some] <;> rfl), by first | exact Kd.R_nil _ _ _ _ _ | exact Kd.N_nil _ _ _ _ _ | exact Kd.V_nil _ _ _ _ _ | exact Kd.Q_nil _ _ _ _ _ | exact Kd.S_nil _ _ _ _ _, by repeat (first | (with_reducible first | exact HB.out | apply bA_ | apply bN_ | apply bD_ | refine bS_ ?_ GE214.out) | exact HB.out)⟩
      · rw [if_neg c8] at H
        have c8b0 : ((l0_3.length : Int) == 0) = false := beq_eq_false_iff_ne.mpr c8
        have c8b1 : ((l0_3.length : Int) != 0) = true := bne_iff_ne.mpr c8
        have c8b2 : ¬ (l0_3 = []) := fun h_ => c8 (by rw [h_]; rfl)
        (first | rw [c8b0] | (simp only [i64_w, i32_w]; rw [c8b0]) | skip)
        by_cases c9 : 0 < (l0_3.length : Int)
        · rw [if_pos c9] at H
          have c9b0 : decide (0 < (l0_3.length : Int)) = true := decide_eq_true c9
          have c9b1 : decide (0 < l0_3.length) = true := decide_eq_true (by omega)
          clear c9
          by_cases c10 : 1 ≤ (l0_3.length : Int)
          · rw [if_pos c10] at H
            have c10b0 := eq_true c10
            have c10b1 : decide (1 ≤ (l0_3.length : Int)) = true := decide_eq_true c10
            clear c10
            obtain ⟨y217, hy217⟩ : ∃ y_ : List Int, y_ = (l0_3.drop 1) := ⟨_, rfl⟩
            replace H : (impl_Unpad.j0 k y217 (wrap64 (rd l0_3 0)) a0_0 a0_1 a0_2 l0_3) = some (r1, r2) := by first | (rw [hy217]; with_reducible exact H) | (have H2_ := (Option.bind_some _ _).symm.trans H; rw [hy217]; with_reducible exact H2_) | (have H2_ := (Option.bind_some _ _).symm.trans H; with_reducible exact H2_) | with_reducible exact H | (rw [hy217]; exact H) | exact H
            have Ny217 := Aside0.mk hy217
            clear hy217
            have H' := Aside0.mk H
            clear H
            have p216 : 0 ≤ (0 : Int) := (by omega)
            have q216 : 0 < (l0_3.length : Int) := of_decide_eq_true (by first | (with_reducible assumption) | assumption)
            obtain ⟨ad216, e216, hx216_0⟩ := Kd.at_int (Kd.V_reads' HO0_3.out).2.2 0 p216 q216
            cases e216
            have qi216 : (0 < l0_3.length) = True := eq_true (by omega)
            (try rw [show ((0 : Int)).toNat = 0 from rfl] at hx216_0)
            (try rw [Addr.add_zero'] at hx216_0)
            replace p216 := eq_true p216
            replace q216 := eq_true q216
            have q11 : (1 : Int) ≤ ((l0_3.length : Int) : Int) := of_decide_eq_true (by first | (with_reducible assumption) | assumption)
            obtain ⟨i011, hi011, _, hsz11, _⟩ := info_parts info5
            have hroom11 : l0_3.length ≤ c0_3 := (Kd.V_reads' HO0_3.out).2.1
            have hC11 : Kd.F (Kd.int .u8) _ _ (some ad216) l0_3.length l0_3 := (Kd.V_at (base := w.heap.size) HO0_3.out).2.2
            have hcut11 := cut_from (P := Try.prog) 31 5 .i64 Try.underlying31 hi011 1 hsz11 (some ad216) l0_3.length c0_3 1 (by omega) q11
            have hr11 := Kd.F_cut (m := (1 : Int).toNat) (c := c0_3) hC11 (by omega) hroom11
            obtain ⟨A11, hA11⟩ : ∃ A1, A1 = (if c0_3 = (1 : Int).toNat then (some ad216) else ((some ad216) : Option Addr).map (·.add ((1 : Int).toNat * 1))) := ⟨_, rfl⟩
            obtain ⟨c11, hc11⟩ : ∃ c1, c1 = c0_3 - (1 : Int).toNat := ⟨_, rfl⟩
            have hy11 : y217.length = l0_3.length - (1 : Int).toNat := (by rw [Ny217.out, List.length_drop] <;> omega)
            rw [show (l0_3).drop (1 : Int).toNat = y217 from Ny217.out.symm] at hr11
            replace hr11 : Kd.F (Kd.int .u8) _ _ A11 y217.length y217 := (by rw [hA11]; exact hr11)
            rw [← hy11, ← hA11, ← hc11] at hcut11
            have HO221 := As_ (show Kd.V (Kd.int .u8) 5 _ w.heap.size _ (.slice A11 y217.length c11) y217 from Kd.V_mk (by rw [hy11, hc11]; exact Nat.sub_le_sub_right hroom11 _) hr11)
            have HC221 := As_ (show y217.length ≤ c11 from by rw [hy11, hc11]; exact Nat.sub_le_sub_right hroom11 _)
            clear hr11 hC11 hroom11 hi011 hsz11 hc11
            have KY11 := Aside0.mk hy11
            have KA11 := Aside0.mk hA11
            clear hy11 hA11
            replace q11 := eq_true q11
            go_wp2
            go_meet
            case rel => exact ⟨_, (y217), (wrap64 (rd l0_3 0)), (by first | rfl | (simp; done) | (simp [*]; done)), H', ⟨by first | omega | exact Nat.le_refl _⟩, ⟨by (with_reducible repeat (first | apply Kd.V_alloc | apply Kd.V_drewN | apply Kd.V_drew)); exact HO221.out⟩, ⟨by (with_reducible repeat (first | apply Kd.V_alloc | apply Kd.V_drewN | apply Kd.V_drew)); exact HO0_3.out⟩, ⟨by (with_reducible repeat (first | apply kN_ | apply kD_ | apply kA_)); exact BK214.out⟩, ⟨by repeat (first | (with_reducible first | exact HB.out | apply bA_ | apply bN_ | apply bD_ | refine bS_ ?_ GE214.out) | exact HB.out)⟩⟩
          · rw [if_neg c10] at H
            exact absurd H (by simp)
        · rw [if_neg c9] at H
          exact absurd H (by simp)
    · replace c7 := Bool.eq_false_iff.mpr c7
      subst c7
      have H1 : (impl_Unpad.j0 k l0_3 0 a0_0 a0_1 a0_2 l0_3) = some (r1, r2) := by rw [if_neg (show ¬ (false = true) by decide)] at H; exact H
      clear H
      have H := H1
      clear H1
      have H' := Aside0.mk H
      clear H
      go_wp2
      go_meet
      case rel => exact ⟨_, (l0_3), (0), (by first | rfl | (simp; done) | (simp [*]; done)), H', ⟨by first | omega | exact Nat.le_refl _⟩, ⟨by (with_reducible repeat (first | apply Kd.V_alloc | apply Kd.V_drewN | apply Kd.V_drew)); exact HO0_3.out⟩, ⟨by (with_reducible repeat (first | apply Kd.V_alloc | apply Kd.V_drewN | apply Kd.V_drew)); exact HO0_3.out⟩, ⟨by (with_reducible repeat (first | apply kN_ | apply kD_ | apply kA_)); exact BK214.out⟩, ⟨by repeat (first | (with_reducible first | exact HB.out | apply bA_ | apply bN_ | apply bD_ | refine bS_ ?_ GE214.out) | exact HB.out)⟩⟩
  case rest =>
    clear HC3
    try clear c1
    try clear q1
    try clear p2
    try clear q2
    try clear hx2
    try clear qi2
    try clear c6
    try clear p6
    try clear c7
    try clear c8
    try clear c8b0
    try clear c8b1
    try clear c8b2
    try clear c9
    try clear c9b0
    try clear c9b1
    try clear c10
    try clear c10b0
    try clear c10b1
    try clear c11
    try clear q11
    try clear hcz5_0
    try clear hcz5_1
    try clear hcz5_2
    try clear hcz5_3
    try clear hfz5_0
    try clear hfz5_1
    try clear hfz5_2
    try clear hfz5_3
    try clear hx216_0
    try clear p216
    try clear q11
    try clear q216
    obtain ⟨kq, x4_2, x5_2, rfl, HA, HJ2, HO_4, HO_215003, BK214, HB⟩ := hcut
    cases kq with
    | zero => exact absurd HA.out (by simp [impl_Unpad.j0])
    | succ kj2 =>
      have H := HA.out
      clear HA
      simp only [impl_Unpad.j0] at H
      have HC12 := Aside0.mk H
      clear H
      go_upto_region 8 with (fail)
      go_cut [26] (fun v26 wc => ∃ (kq : Nat) (x26_11 : Bool), v26 = .bool x26_11 ∧ Aside0 (impl_Unpad.j1 kq x4_2 x5_2 0 x26_11 = some (r1, r2)) ∧ Aside0 (kq ≤ kj2) ∧ Aside0 (Kd.V (Kd.int .u8) 5 wc w.heap.size (fun k_ => (P0_3_ k_ ∨ w.heap.size ≤ k_) ∧ k_ ≠ gb214) u4 x4_2) ∧ Aside0 (Kd.V (Kd.int .u8) 5 wc w.heap.size (fun k_ => (P0_3_ k_ ∨ w.heap.size ≤ k_) ∧ k_ ≠ gb214) (.slice A0_3 l0_3.length c0_3) l0_3) ∧ Aside0 (wc.heap[gb214]? = some (.cells #[.int .i64 a0_0, .int .i64 a0_1, .int .i64 a0_2, (.slice A0_3 l0_3.length c0_3)] 45 (0, 0))) ∧ Aside0 (Below w.heap.size w wc))
      case first =>
        have H := HC12.out
        clear HC12
        by_cases c13 : a0_0 = 1
        · rw [if_pos c13] at H
          have c13b0 : (a0_0 == 1) = true := beq_iff_eq.mpr c13
          have c13b1 : (a0_0 != 1) = false := bne_eq_false_iff_eq.mpr c13
          clear c13
          (first | rw [c13b0] | (simp only [i64_w, i32_w]; rw [c13b0]) | skip)
          replace H := Option.bind_eq_some_iff.mp H
          obtain ⟨t222, A140, H⟩ := H
          replace H : (impl_Unpad.j1 kj2 x4_2 x5_2 0 t222) = some (r1, r2) := H
          have A14 := Aside0.mk A140
          clear A140
          have H' := Aside0.mk H
          clear H
          obtain ⟨hcz15_0, hcz15_1, hcz15_2, hcz15_3, hfz15_0, hfz15_1, hfz15_2, hfz15_3⟩ := blk_all4 BK214.out
          go_wp2_with (first | (go_at_call 63; (with_reducible refine (impl_Frame_has.calls a0_0 a0_1 a0_2 _ _ l0_3 32 t222 _ ?side1 ?side2 A14.out).mono ?_); (case side1 => repeat (first | exact (Kd.V_reads' HO_215003.out).2.2 | (with_reducible first | apply cA_ | apply cN_ | apply cD_))); (case side2 => exact (Kd.V_reads' HO_215003.out).2.1); rintro e w16 ⟨rfl, hb⟩; replace HO_4 := As_ (Kd.V_below (by (with_reducible repeat (first | apply Kd.V_alloc | apply Kd.V_drewN | apply Kd.V_drew)); exact HO_4.out) hb); replace HO_215003 := As_ (Kd.V_below (by (with_reducible repeat (first | apply Kd.V_alloc | apply Kd.V_drewN | apply Kd.V_drew)); exact HO_215003.out) hb); replace BK214 := As_ (blk_below (g := gb214) (o := .cells #[.int .i64 a0_0, .int .i64 a0_1, .int .i64 a0_2, .slice A0_3 l0_3.length c0_3] 45 (0, 0)) (by (with_reducible repeat (first | apply kN_ | apply kD_ | apply kA_)); exact BK214.out) hb); replace HB := As_ (below_step (by repeat (first | (with_reducible first | exact HB.out | apply bA_ | apply bN_ | apply bD_ | refine bS_ ?_ GE214.out) | exact HB.out)) hb); (try clear hb); (try clear hb2); (try clear hk); (try clear hi)))
          go_meet
          case rel => exact ⟨_, (t222), (by first | rfl | (simp; done) | (simp [*]; done)), H', ⟨by have := HJ2.out; first | omega | exact Nat.le_refl _⟩, ⟨by (with_reducible repeat (first | apply Kd.V_alloc | apply Kd.V_drewN | apply Kd.V_drew)); exact HO_4.out⟩, ⟨by (with_reducible repeat (first | apply Kd.V_alloc | apply Kd.V_drewN | apply Kd.V_drew)); exact HO_215003.out⟩, ⟨by (with_reducible repeat (first | apply kN_ | apply kD_ | apply kA_)); exact BK214.out⟩, ⟨by repeat (first | (with_reducible first | exact HB.out | apply bA_ | apply bN_ | apply bD_ | refine bS_ ?_ GE214.out) | exact HB.out)⟩⟩
        · rw [if_neg c13] at H
          have c13b0 : (a0_0 == 1) = false := beq_eq_false_iff_ne.mpr c13
          have c13b1 : (a0_0 != 1) = true := bne_iff_ne.mpr c13
          (first | rw [c13b0] | (simp only [i64_w, i32_w]; rw [c13b0]) | skip)
          have H' := Aside0.mk H
          clear H
          obtain ⟨hcz17_0, hcz17_1, hcz17_2, hcz17_3, hfz17_0, hfz17_1, hfz17_2, hfz17_3⟩ := blk_all4 BK214.out
          go_wp2
          go_meet
          case rel => exact ⟨_, (false), (by first | rfl | (simp; done) | (simp [*]; done)), H', ⟨by have := HJ2.out; first | omega | exact Nat.le_refl _⟩, ⟨by (with_reducible repeat (first | apply Kd.V_alloc | apply Kd.V_drewN | apply Kd.V_drew)); exact HO_4.out⟩, ⟨by (with_reducible repeat (first | apply Kd.V_alloc | apply Kd.V_drewN | apply Kd.V_drew)); exact HO_215003.out⟩, ⟨by (with_reducible repeat (first | apply kN_ | apply kD_ | apply kA_)); exact BK214.out⟩, ⟨by repeat (first | (with_reducible first | exact HB.out | apply bA_ | apply bN_ | apply bD_ | refine bS_ ?_ GE214.out) | exact HB.out)⟩⟩
      case rest =>
        clear HC12
        try clear c1
        try clear q1
        try clear p2
        try clear q2
        try clear hx2
        try clear qi2
        try clear c6
        try clear p6
        try clear c7
        try clear c8
        try clear c8b0
        try clear c8b1
        try clear c8b2
        try clear c9
        try clear c9b0
        try clear c9b1
        try clear c10
        try clear c10b0
        try clear c10b1
        try clear c11
        try clear q11
        try clear c13
        try clear c13b0
        try clear c13b1
        try clear hcz15_0
        try clear hcz15_1
        try clear hcz15_2
        try clear hcz15_3
        try clear hcz17_0
        try clear hcz17_1
        try clear hcz17_2
        try clear hcz17_3
        try clear hcz5_0
        try clear hcz5_1
        try clear hcz5_2
        try clear hcz5_3
        try clear hfz15_0
        try clear hfz15_1
        try clear hfz15_2
        try clear hfz15_3
        try clear hfz17_0
        try clear hfz17_1
        try clear hfz17_2
        try clear hfz17_3
        try clear hfz5_0
        try clear hfz5_1
        try clear hfz5_2
        try clear hfz5_3
        try clear hx216_0
        try clear p2
        try clear p216
        try clear p6
        try clear q1
        try clear q11
        try clear q2
        try clear q216
        obtain ⟨kq, x26_11, rfl, HA, HJ11, HO_4, HO_215003, BK214, HB⟩ := hcut
        cases kq with
        | zero => exact absurd HA.out (by simp [impl_Unpad.j1])
        | succ kj11 =>
          have H := HA.out
          clear HA
          simp only [impl_Unpad.j1] at H
          by_cases c18 : x26_11 = true
          · subst c18
            have H1 : (if (wrap64 (5 + x5_2)) > (x4_2.length : Int) then (some (([] : List Int), false)) else (if 5 ≤ (wrap64 ((x4_2.length : Int) - x5_2)) then (if (wrap64 ((x4_2.length : Int) - x5_2)) ≤ (x4_2.length : Int) then ((slices_Clone_byte_byte.f ((x4_2.take ((wrap64 ((x4_2.length : Int) - x5_2)) : Int).toNat).drop 5)).bind fun t228 => (some (t228, true))) else (none)) else (none))) = some (r1, r2) := by rw [if_pos rfl] at H; exact H
            clear H
            have H := H1
            clear H1
            by_cases c19 : (wrap64 (5 + x5_2)) > (x4_2.length : Int)
            · rw [if_pos c19] at H
              have c19b0 : decide ((x4_2.length : Int) < (wrap64 (5 + x5_2))) = true := decide_eq_true c19
              clear c19
              simp only [Option.some.injEq, Prod.mk.injEq] at H
              obtain ⟨rfl, rfl⟩ := H
              obtain ⟨Ao20, co20, eo20⟩ := Kd.V_slice HO_4.out
              subst eo20
              go_wp2
              go_ret2
              exact ⟨_, by first | rfl | (simp [errW_none, errW_some] <;> rfl) | (simp [*, errW_none, errW_some] <;> rfl), by first | exact Kd.R_nil _ _ _ _ _ | exact Kd.N_nil _ _ _ _ _ | exact Kd.V_nil _ _ _ _ _ | exact Kd.Q_nil _ _ _ _ _ | exact Kd.S_nil _ _ _ _ _, by repeat (first | (with_reducible first | exact HB.out | apply bA_ | apply bN_ | apply bD_ | refine bS_ ?_ GE214.out) | exact HB.out)⟩
            · rw [if_neg c19] at H
              have c19b0 : decide ((x4_2.length : Int) < (wrap64 (5 + x5_2))) = false := decide_eq_false c19
              clear c19
              by_cases c21 : 5 ≤ (wrap64 ((x4_2.length : Int) - x5_2))
              · rw [if_pos c21] at H
                have c21b0 := eq_true c21
                have c21b1 : decide (5 ≤ (wrap64 ((x4_2.length : Int) - x5_2))) = true := decide_eq_true c21
                clear c21
                by_cases c22 : (wrap64 ((x4_2.length : Int) - x5_2)) ≤ (x4_2.length : Int)
                · rw [if_pos c22] at H
                  have c22b0 := eq_true c22
                  have c22b1 : decide ((wrap64 ((x4_2.length : Int) - x5_2)) ≤ (x4_2.length : Int)) = true := decide_eq_true c22
                  clear c22
                  obtain ⟨y223, hy223⟩ : ∃ y_ : List Int, y_ = ((x4_2.take ((wrap64 ((x4_2.length : Int) - x5_2)) : Int).toNat).drop 5) := ⟨_, rfl⟩
                  replace H : ((slices_Clone_byte_byte.f y223).bind fun t228 => (some (t228, true))) = some (r1, r2) := by first | (rw [hy223]; with_reducible exact H) | (have H2_ := (Option.bind_some _ _).symm.trans H; rw [hy223]; with_reducible exact H2_) | (have H2_ := (Option.bind_some _ _).symm.trans H; with_reducible exact H2_) | with_reducible exact H | (rw [hy223]; exact H) | exact H
                  have Ny223 := Aside0.mk hy223
                  clear hy223
                  replace H := Option.bind_eq_some_iff.mp H
                  obtain ⟨t228, A230, H⟩ := H
                  replace H : (some (t228, true)) = some (r1, r2) := H
                  have A23 := Aside0.mk A230
                  clear A230
                  simp only [Option.some.injEq, Prod.mk.injEq] at H
                  obtain ⟨rfl, rfl⟩ := H
                  obtain ⟨Ao24, co24, eo24⟩ := Kd.V_slice HO_4.out
                  subst eo24
                  have q25 : ((wrap64 ((x4_2.length : Int) - x5_2)) : Int) ≤ ((x4_2.length : Int) : Int) := of_decide_eq_true (by first | (with_reducible assumption) | assumption)
                  obtain ⟨i025, hi025, _, hsz25, _⟩ := info_parts info5
                  have hroom25 : x4_2.length ≤ co24 := (Kd.V_reads' HO_4.out).2.1
                  have hC25 : Kd.F (Kd.int .u8) _ _ Ao24 x4_2.length x4_2 := (Kd.V_at (base := w.heap.size) HO_4.out).2.2
                  have ql25 : (5 : Int) ≤ ((wrap64 ((x4_2.length : Int) - x5_2)) : Int) := of_decide_eq_true (by first | (with_reducible assumption) | assumption)
                  have hcut25 := cut_mid (P := Try.prog) 31 5 .i64 .i64 Try.underlying31 hi025 1 hsz25 Ao24 x4_2.length co24 5 (wrap64 ((x4_2.length : Int) - x5_2)) (by omega) ql25 q25 hroom25
                  have hr25 := Kd.F_mid (lo := (5 : Int).toNat) (hi := ((wrap64 ((x4_2.length : Int) - x5_2)) : Int).toNat) (c := co24) hC25 (by omega) (by omega) hroom25
                  obtain ⟨A25, hA25⟩ : ∃ A1, A1 = (if co24 = (5 : Int).toNat then Ao24 else (Ao24 : Option Addr).map (·.add ((5 : Int).toNat * 1))) := ⟨_, rfl⟩
                  obtain ⟨c25, hc25⟩ : ∃ c1, c1 = co24 - (5 : Int).toNat := ⟨_, rfl⟩
                  have hy25 : y223.length = ((wrap64 ((x4_2.length : Int) - x5_2)) : Int).toNat - (5 : Int).toNat := (by rw [Ny223.out, List.length_drop, List.length_take] <;> omega)
                  rw [show ((x4_2).take ((wrap64 ((x4_2.length : Int) - x5_2)) : Int).toNat).drop (5 : Int).toNat = y223 from Ny223.out.symm] at hr25
                  replace hr25 : Kd.F (Kd.int .u8) _ _ A25 y223.length y223 := (by rw [hA25]; exact hr25)
                  rw [← hy25, ← hA25, ← hc25] at hcut25
                  have HO227 := As_ (show Kd.V (Kd.int .u8) 5 _ w.heap.size _ (.slice A25 y223.length c25) y223 from Kd.V_mk (by rw [hy25, hc25]; exact Nat.sub_le_sub_right (Nat.le_trans (by omega) hroom25) _) hr25)
                  have HC227 := As_ (show y223.length ≤ c25 from by rw [hy25, hc25]; exact Nat.sub_le_sub_right (Nat.le_trans (by omega) hroom25) _)
                  clear hr25 hC25 hroom25 hi025 hsz25 hc25
                  have KY25 := Aside0.mk hy25
                  have KA25 := Aside0.mk hA25
                  clear hy25 hA25
                  replace q25 := eq_true q25
                  go_wp2_with (first | ((with_reducible refine gate_callee (f := 74) rfl ?_); refine goesL_ (some 40) rfl rfl Try.func74 (by kernel_rfl) rfl #[.slice A25 y223.length c25] rfl (by (try simp only [List.map_toArray, List.map_cons, List.map_nil]); first | done | rfl | (simp only [List.length_drop, List.length_take]; rfl)) ?_; (with_reducible refine (slices_Clone_byte_byte.calls _ _ y223 t228 _ ?side1 ?side2 A23.out).mono ?_); (case side1 => repeat (first | exact (Kd.V_reads' HO227.out).2.2 | (with_reducible first | apply cA_ | apply cN_ | apply cD_))); (case side2 => exact (Kd.V_reads' HO227.out).2.1); rintro e w26 ⟨v229, rfl, ho0, hb⟩; refine ⟨_, rfl, ?_⟩; replace HO_4 := As_ (Kd.V_elder' (by (with_reducible repeat (first | apply Kd.V_alloc | apply Kd.V_drewN | apply Kd.V_drew)); exact HO_4.out) (Kd.R_base ho0) hb); replace HO_215003 := As_ (Kd.V_elder' (by (with_reducible repeat (first | apply Kd.V_alloc | apply Kd.V_drewN | apply Kd.V_drew)); exact HO_215003.out) (Kd.R_base ho0) hb); replace HO227 := As_ (Kd.V_elder' (by (with_reducible repeat (first | apply Kd.V_alloc | apply Kd.V_drewN | apply Kd.V_drew)); exact HO227.out) (Kd.R_base ho0) hb); have HO230 := As_ (Kd.R_lower (Kd.R_newM (M := fun k_ => (w.heap.size ≤ k_)) ho0 (below_size (by repeat (first | (with_reducible first | exact HB.out | apply bA_ | apply bN_ | apply bD_ | refine bS_ ?_ GE214.out) | exact HB.out))) (fun k_ h_ => h_)) (below_size (by repeat (first | (with_reducible first | exact HB.out | apply bA_ | apply bN_ | apply bD_ | refine bS_ ?_ GE214.out) | exact HB.out)))); replace BK214 := As_ (blk_below (g := gb214) (o := .cells #[.int .i64 a0_0, .int .i64 a0_1, .int .i64 a0_2, .slice A0_3 l0_3.length c0_3] 45 (0, 0)) (by (with_reducible repeat (first | apply kN_ | apply kD_ | apply kA_)); exact BK214.out) hb); replace HB := As_ (below_step (by repeat (first | (with_reducible first | exact HB.out | apply bA_ | apply bN_ | apply bD_ | refine bS_ ?_ GE214.out) | exact HB.out)) hb); (try clear hb); (try clear hb2); (try clear hk); (try clear hi); (try clear ho0)))
                  go_ret2
                  exact ⟨_, by first | rfl | (simp [errW_none, errW_some] <;> rfl) | (simp [*, errW_none, errW_some] <;> rfl), by (with_reducible repeat (first | apply rA_ | apply rN_ | apply rD_)); exact Kd.R_mono HO230.out (fun _ hk => hk.1), by repeat (first | (with_reducible first | exact HB.out | apply bA_ | apply bN_ | apply bD_ | refine bS_ ?_ GE214.out) | exact HB.out)⟩
                · rw [if_neg c22] at H
                  exact absurd H (by simp)
              · rw [if_neg c21] at H
                exact absurd H (by simp)
          · replace c18 := Bool.eq_false_iff.mpr c18
            subst c18
            have H1 : (if (wrap64 (0 + x5_2)) > (x4_2.length : Int) then (some (([] : List Int), false)) else (if 0 ≤ 0 then (if 0 ≤ (wrap64 ((x4_2.length : Int) - x5_2)) then (if (wrap64 ((x4_2.length : Int) - x5_2)) ≤ (x4_2.length : Int) then ((slices_Clone_byte_byte.f ((x4_2.take ((wrap64 ((x4_2.length : Int) - x5_2)) : Int).toNat).drop (0 : Int).toNat)).bind fun t236 => (some (t236, true))) else (none)) else (none)) else (none))) = some (r1, r2) := by rw [if_neg (show ¬ (false = true) by decide)] at H; exact H
            clear H
            have H := H1
            clear H1
            by_cases c27 : (wrap64 (0 + x5_2)) > (x4_2.length : Int)
            · rw [if_pos c27] at H
              have c27b0 : decide ((x4_2.length : Int) < (wrap64 (0 + x5_2))) = true := decide_eq_true c27
              have c27b0z : decide ((x4_2.length : Int) < (wrap64 x5_2)) = true := by rw [Int.zero_add] at c27b0; exact c27b0
              clear c27
              simp only [Option.some.injEq, Prod.mk.injEq] at H
              obtain ⟨rfl, rfl⟩ := H
              obtain ⟨Ao28, co28, eo28⟩ := Kd.V_slice HO_4.out
              subst eo28
              go_wp2
              go_ret2
              exact ⟨_, by first | rfl | (simp [errW_none, errW_some] <;> rfl) | (simp [*, errW_none, errW_some] <;> rfl), by first | exact Kd.R_nil _ _ _ _ _ | exact Kd.N_nil _ _ _ _ _ | exact Kd.V_nil _ _ _ _ _ | exact Kd.Q_nil _ _ _ _ _ | exact Kd.S_nil _ _ _ _ _, by repeat (first | (with_reducible first | exact HB.out | apply bA_ | apply bN_ | apply bD_ | refine bS_ ?_ GE214.out) | exact HB.out)⟩
            · rw [if_neg c27] at H
              have c27b0 : decide ((x4_2.length : Int) < (wrap64 (0 + x5_2))) = false := decide_eq_false c27
              have c27b0z : decide ((x4_2.length : Int) < (wrap64 x5_2)) = false := by rw [Int.zero_add] at c27b0; exact c27b0
              clear c27
              by_cases c29 : 0 ≤ 0
              · rw [if_pos c29] at H
                have c29b0 := eq_true c29
                have c29b1 : decide (0 ≤ 0) = true := decide_eq_true c29
                clear c29
                obtain ⟨ji30, hji30⟩ : ∃ j_ : Int, (wrap64 ((x4_2.length : Int) - x5_2)) = j_ := ⟨_, rfl⟩
                replace H : (if 0 ≤ (ji30) then (if (ji30) ≤ (x4_2.length : Int) then ((slices_Clone_byte_byte.f ((x4_2.take ((ji30) : Int).toNat).drop (0 : Int).toNat)).bind fun t236 => (some (t236, true))) else (none)) else (none)) = some (r1, r2) := by first | (rw [hji30] at H; exact H) | (simp only [hji30] at H ⊢; exact H)
                have hji30w : (IntKind.i64.wrap ((x4_2.length : Int) - x5_2)) = ji30 := (i64_w _).trans hji30
                by_cases c31 : 0 ≤ (ji30)
                · rw [if_pos c31] at H
                  have c31b0 := eq_true c31
                  have c31b1 : decide (0 ≤ (ji30)) = true := decide_eq_true c31
                  clear c31
                  by_cases c32 : (ji30) ≤ (x4_2.length : Int)
                  · rw [if_pos c32] at H
                    have c32b0 := eq_true c32
                    have c32b1 : decide ((ji30) ≤ (x4_2.length : Int)) = true := decide_eq_true c32
                    clear c32
                    obtain ⟨y231, hy231⟩ : ∃ y_ : List Int, y_ = ((x4_2.take ((ji30) : Int).toNat).drop (0 : Int).toNat) := ⟨_, rfl⟩
                    replace H : ((slices_Clone_byte_byte.f y231).bind fun t236 => (some (t236, true))) = some (r1, r2) := by first | (rw [hy231]; with_reducible exact H) | (have H2_ := (Option.bind_some _ _).symm.trans H; rw [hy231]; with_reducible exact H2_) | (have H2_ := (Option.bind_some _ _).symm.trans H; with_reducible exact H2_) | with_reducible exact H | (rw [hy231]; exact H) | exact H
                    have Ny231 := Aside0.mk hy231
                    clear hy231
                    replace H := Option.bind_eq_some_iff.mp H
                    obtain ⟨t236, A330, H⟩ := H
                    replace H : (some (t236, true)) = some (r1, r2) := H
                    have A33 := Aside0.mk A330
                    clear A330
                    simp only [Option.some.injEq, Prod.mk.injEq] at H
                    obtain ⟨rfl, rfl⟩ := H
                    obtain ⟨Ao34, co34, eo34⟩ := Kd.V_slice HO_4.out
                    subst eo34
                    have q35 : ((ji30) : Int) ≤ ((x4_2.length : Int) : Int) := of_decide_eq_true (by first | (with_reducible assumption) | assumption)
                    obtain ⟨i035, hi035, _, hsz35, _⟩ := info_parts info5
                    have hroom35 : x4_2.length ≤ co34 := (Kd.V_reads' HO_4.out).2.1
                    have hC35 : Kd.F (Kd.int .u8) _ _ Ao34 x4_2.length x4_2 := (Kd.V_at (base := w.heap.size) HO_4.out).2.2
                    have ql35 : (0 : Int) ≤ ((ji30) : Int) := of_decide_eq_true (by first | (with_reducible assumption) | assumption)
                    have hcut35 := cut_mid (P := Try.prog) 31 5 .i64 .i64 Try.underlying31 hi035 1 hsz35 Ao34 x4_2.length co34 0 (ji30) (by omega) ql35 q35 hroom35
                    have hr35 := Kd.F_mid (lo := (0 : Int).toNat) (hi := ((ji30) : Int).toNat) (c := co34) hC35 (by omega) (by omega) hroom35
                    obtain ⟨A35, hA35⟩ : ∃ A1, A1 = (if co34 = (0 : Int).toNat then Ao34 else (Ao34 : Option Addr).map (·.add ((0 : Int).toNat * 1))) := ⟨_, rfl⟩
                    obtain ⟨c35, hc35⟩ : ∃ c1, c1 = co34 - (0 : Int).toNat := ⟨_, rfl⟩
                    have hy35 : y231.length = ((ji30) : Int).toNat - (0 : Int).toNat := (by rw [Ny231.out, List.length_drop, List.length_take] <;> omega)
                    rw [show ((x4_2).take ((ji30) : Int).toNat).drop (0 : Int).toNat = y231 from Ny231.out.symm] at hr35
                    replace hr35 : Kd.F (Kd.int .u8) _ _ A35 y231.length y231 := (by rw [hA35]; exact hr35)
                    rw [← hy35, ← hA35, ← hc35] at hcut35
                    have HO235 := As_ (show Kd.V (Kd.int .u8) 5 _ w.heap.size _ (.slice A35 y231.length c35) y231 from Kd.V_mk (by rw [hy35, hc35]; exact Nat.sub_le_sub_right (Nat.le_trans (by omega) hroom35) _) hr35)
                    have HC235 := As_ (show y231.length ≤ c35 from by rw [hy35, hc35]; exact Nat.sub_le_sub_right (Nat.le_trans (by omega) hroom35) _)
                    clear hr35 hC35 hroom35 hi035 hsz35 hc35
                    have KY35 := Aside0.mk hy35
                    have KA35 := Aside0.mk hA35
                    clear hy35 hA35
                    replace q35 := eq_true q35
                    go_wp2_with (first | ((with_reducible refine gate_callee (f := 74) rfl ?_); refine goesL_ (some 40) rfl rfl Try.func74 (by kernel_rfl) rfl #[.slice A35 y231.length c35] rfl (by (try simp only [List.map_toArray, List.map_cons, List.map_nil]); first | done | rfl | (simp only [List.length_drop, List.length_take]; rfl)) ?_; (with_reducible refine (slices_Clone_byte_byte.calls _ _ y231 t236 _ ?side1 ?side2 A33.out).mono ?_); (case side1 => repeat (first | exact (Kd.V_reads' HO235.out).2.2 | (with_reducible first | apply cA_ | apply cN_ | apply cD_))); (case side2 => exact (Kd.V_reads' HO235.out).2.1); rintro e w36 ⟨v237, rfl, ho0, hb⟩; refine ⟨_, rfl, ?_⟩; replace HO_4 := As_ (Kd.V_elder' (by (with_reducible repeat (first | apply Kd.V_alloc | apply Kd.V_drewN | apply Kd.V_drew)); exact HO_4.out) (Kd.R_base ho0) hb); replace HO_215003 := As_ (Kd.V_elder' (by (with_reducible repeat (first | apply Kd.V_alloc | apply Kd.V_drewN | apply Kd.V_drew)); exact HO_215003.out) (Kd.R_base ho0) hb); replace HO235 := As_ (Kd.V_elder' (by (with_reducible repeat (first | apply Kd.V_alloc | apply Kd.V_drewN | apply Kd.V_drew)); exact HO235.out) (Kd.R_base ho0) hb); have HO238 := As_ (Kd.R_lower (Kd.R_newM (M := fun k_ => (w.heap.size ≤ k_)) ho0 (below_size (by repeat (first | (with_reducible first | exact HB.out | apply bA_ | apply bN_ | apply bD_ | refine bS_ ?_ GE214.out) | exact HB.out))) (fun k_ h_ => h_)) (below_size (by repeat (first | (with_reducible first | exact HB.out | apply bA_ | apply bN_ | apply bD_ | refine bS_ ?_ GE214.out) | exact HB.out)))); replace BK214 := As_ (blk_below (g := gb214) (o := .cells #[.int .i64 a0_0, .int .i64 a0_1, .int .i64 a0_2, .slice A0_3 l0_3.length c0_3] 45 (0, 0)) (by (with_reducible repeat (first | apply kN_ | apply kD_ | apply kA_)); exact BK214.out) hb); replace HB := As_ (below_step (by repeat (first | (with_reducible first | exact HB.out | apply bA_ | apply bN_ | apply bD_ | refine bS_ ?_ GE214.out) | exact HB.out)) hb); (try clear hb); (try clear hb2); (try clear hk); (try clear hi); (try clear ho0)))
                    go_ret2
                    exact ⟨_, by first | rfl | (simp [errW_none, errW_some] <;> rfl) | (simp only [← hji30]; first | rfl | (simp [errW_none, errW_some] <;> rfl)) | (simp [*, errW_none, errW_some] <;> rfl), by (with_reducible repeat (first | apply rA_ | apply rN_ | apply rD_)); exact Kd.R_mono HO238.out (fun _ hk => hk.1), by repeat (first | (with_reducible first | exact HB.out | apply bA_ | apply bN_ | apply bD_ | refine bS_ ?_ GE214.out) | exact HB.out)⟩
                  · rw [if_neg c32] at H
                    exact absurd H (by simp)
                · rw [if_neg c31] at H
                  exact absurd H (by simp)
              · rw [if_neg c29] at H
                exact absurd H (by simp)

end Go.Proofs.Ytjbecmaibifmlaa.QFnGathered
