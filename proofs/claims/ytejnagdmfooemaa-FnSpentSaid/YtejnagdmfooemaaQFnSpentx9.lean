/- Contracts of functions of the translation, each with its pure function; printed by a program of this session (wip/pr.py) over the kit's print; no condition of its own. -/
import Derived.Test.YtejnagdmfooemaaQFnSpentx0
import Derived.Test.YtejnagdmfooemaaQFnSpentx1
import Derived.Test.YtejnagdmfooemaaQFnSpentx2
import Derived.Test.YtejnagdmfooemaaQFnSpentx3
import Derived.Test.YtejnagdmfooemaaQFnSpentx8
namespace Go.Proofs.Ytejnagdmfooemaa.QFnSpent
open Go.RowKit Go.Proofs.YtejnagdmfooemaaW.PrintWords Go.Proofs.YtejnagdmfooemaaW.PrintLast Go.Proofs.YtejnagdmfooemaaW.PrintMore
attribute [local go_sem] max2_int min2_int max_two min_two max_three min_three max_four min_four   -- for this text's walks alone
set_option linter.unusedVariables false
set_option linter.unusedSimpArgs false

/-! ### laws_FnSpent: function 10 -/
def laws_FnSpent.j0 : Nat → Int → Int → Bool → Int → Int → List (S48) → Int → Int → List (S48) → Option (Bool)
  | 0, _, _, _, _, _, _, _, _, _ => none
  | k + 1, x4, x5, x77, x457000, x457001, x457002, x464000, x464001, x464002 => if x77 = true then (none) else (if x5 = 0 then (some true) else ((impl_Grant.f k x464000 x464001 x464002 x4 x5).bind fun bt476 => ((impl_Grant.f k bt476.1 bt476.2.1 bt476.2.2.1 0 x5).bind fun bt483 => (if bt476.2.2.2 = true then (if bt483.2.2.2 = true then (if bt483.1 = x457000 then ((impl_RoomOf.f k bt483.1 bt483.2.1 bt483.2.2.1 x4).bind fun t490 => ((impl_RoomOf.f k x457000 x457001 x457002 x4).bind fun t491 => (some (t490 == t491)))) else (none)) else (none)) else (none)))))
def laws_FnSpent.f (k : Nat) (l0 : List Int) : Option (Bool) := (laws_big.f l0).bind fun t448 => (if t448 = true then (some true) else ((spec_DrawSpend.f k l0).bind fun bt449 => ((impl_Spend.f k bt449.1 bt449.2.1 bt449.2.2.1 bt449.2.2.2.1 bt449.2.2.2.2).bind fun bt457 => ((spec_Spend.f k bt449.1 bt449.2.1 bt449.2.2.1 bt449.2.2.2.1 bt449.2.2.2.2).bind fun bt464 => (if (bt457.2.2.2 != bt464.2.2.2) = true then (none) else (if bt457.2.2.2 = true then ((impl_FlowOk.f k bt457.1 bt457.2.1 bt457.2.2.1).bind fun t473 => (if t473 = true then (if bt457.1 = (wrap64 (bt449.1 - bt449.2.2.2.2)) then ((impl_RoomOf.f k bt457.1 bt457.2.1 bt457.2.2.1 bt449.2.2.2.1).bind fun t474 => ((impl_RoomOf.f k bt449.1 bt449.2.1 bt449.2.2.1 bt449.2.2.2.1).bind fun t475 => (laws_FnSpent.j0 k bt449.2.2.2.1 bt449.2.2.2.2 (t474 != (wrap64 (t475 - bt449.2.2.2.2))) bt449.1 bt449.2.1 bt449.2.2.1 bt457.1 bt457.2.1 bt457.2.2.1))) else (laws_FnSpent.j0 k bt449.2.2.2.1 bt449.2.2.2.2 true bt449.1 bt449.2.1 bt449.2.2.1 bt457.1 bt457.2.1 bt457.2.2.1)) else (laws_FnSpent.j0 k bt449.2.2.2.1 bt449.2.2.2.2 true bt449.1 bt449.2.1 bt449.2.2.1 bt457.1 bt457.2.1 bt457.2.2.1))) else (if bt457.1 = bt449.1 then ((impl_RoomOf.f k bt457.1 bt457.2.1 bt457.2.2.1 bt449.2.2.2.1).bind fun t471 => ((impl_RoomOf.f k bt449.1 bt449.2.1 bt449.2.2.1 bt449.2.2.2.1).bind fun t472 => (some (t471 == t472)))) else (none))))))))
theorem laws_FnSpent.mono_l : ∀ k, (∀ y0 y1 y2 y3 y4 y5 y6 y7 y8, LeO (laws_FnSpent.j0 k y0 y1 y2 y3 y4 y5 y6 y7 y8) (laws_FnSpent.j0 (k + 1) y0 y1 y2 y3 y4 y5 y6 y7 y8))
  | 0 => fun _ _ _ _ _ _ _ _ _ r h => by simp [laws_FnSpent.j0] at h
  | k + 1 => by
    have ih0 := laws_FnSpent.mono_l k
    · intro y0 y1 y2 y3 y4 y5 y6 y7 y8
      unfold laws_FnSpent.j0
      repeat' first
      | (with_reducible exact ih0 _ _ _ _ _ _ _ _ _)
      | (with_reducible exact impl_FlowOk.mono _ _ _ _)
      | (with_reducible exact impl_Grant.mono _ _ _ _ _ _)
      | (with_reducible exact impl_RoomOf.mono _ _ _ _ _)
      | (with_reducible exact impl_Spend.mono _ _ _ _ _ _)
      | (with_reducible exact spec_DrawSpend.mono _ _)
      | (with_reducible exact spec_Spend.mono _ _ _ _ _ _)
      | (with_reducible exact LeO.refl _)
      | (with_reducible exact LeO.none _)
      | (with_reducible refine LeO.ite ?_ ?_)
      | (with_reducible refine LeO.bind ?_ (fun _ => ?_))
      | exact ih0 _ _ _ _ _ _ _ _ _
      | exact impl_FlowOk.mono _ _ _ _
      | exact impl_Grant.mono _ _ _ _ _ _
      | exact impl_RoomOf.mono _ _ _ _ _
      | exact impl_Spend.mono _ _ _ _ _ _
      | exact spec_DrawSpend.mono _ _
      | exact spec_Spend.mono _ _ _ _ _ _
      | exact LeO.none _
      | refine LeO.ite ?_ ?_
      | refine LeO.bind ?_ (fun _ => ?_)
theorem laws_FnSpent.mono : ∀ a0 k, LeO (laws_FnSpent.f k a0) (laws_FnSpent.f (k + 1) a0) := by
  intro a0 k
  have ih0 := laws_FnSpent.mono_l k
  unfold laws_FnSpent.f
  repeat' first
      | (with_reducible exact ih0 _ _ _ _ _ _ _ _ _)
      | (with_reducible exact impl_FlowOk.mono _ _ _ _)
      | (with_reducible exact impl_Grant.mono _ _ _ _ _ _)
      | (with_reducible exact impl_RoomOf.mono _ _ _ _ _)
      | (with_reducible exact impl_Spend.mono _ _ _ _ _ _)
      | (with_reducible exact spec_DrawSpend.mono _ _)
      | (with_reducible exact spec_Spend.mono _ _ _ _ _ _)
      | (with_reducible exact LeO.refl _)
      | (with_reducible exact LeO.none _)
      | (with_reducible refine LeO.ite ?_ ?_)
      | (with_reducible refine LeO.bind ?_ (fun _ => ?_))
      | exact ih0 _ _ _ _ _ _ _ _ _
      | exact impl_FlowOk.mono _ _ _ _
      | exact impl_Grant.mono _ _ _ _ _ _
      | exact impl_RoomOf.mono _ _ _ _ _
      | exact impl_Spend.mono _ _ _ _ _ _
      | exact spec_DrawSpend.mono _ _
      | exact spec_Spend.mono _ _ _ _ _ _
      | exact LeO.none _
      | refine LeO.ite ?_ ?_
      | refine LeO.bind ?_ (fun _ => ?_)
def laws_FnSpent.T9 : Bool × List (List Nat × List Nat) := (true, [([], []), ([0], [0]), ([], []), ([2], [2]), ([1, 3], [1, 3]), ([4], [4]), ([5], [5]), ([5], [5]), ([6, 7, 5, 5], [5, 6, 7]), ([5], [5]), ([5], [5]), ([9, 10, 8, 5], [5, 9, 10]), ([8, 11, 5], [5, 8, 11]), ([5, 12], [5, 12]), ([13, 11, 0, 1, 2, 3, 4, 5, 6, 7, 8, 9, 10, 11, 12, 13], [13])])
def laws_FnSpent.B9 : List Nat := [0, 1, 0, 4, 15, 31, 63, 63, 255, 63, 63, 2047, 4095, 8191, 16383]
theorem laws_FnSpent.tab9 : rtab .any (opsOf Try.f10 9) = laws_FnSpent.T9 := by kernel_rfl
theorem laws_FnSpent.bits9 : waitsOk laws_FnSpent.T9.2 laws_FnSpent.B9 = true := by kernel_rfl
def laws_FnSpent.T10 : Bool × List (List Nat × List Nat) := (true, [([], []), ([0], [0]), ([1], [1]), ([2, 1], [2]), ([3], [3]), ([4, 3], [3, 4]), ([3], [3]), ([6, 3], [3, 6]), ([3], [3]), ([7, 8, 3], [3, 7, 8]), ([5, 9, 3], [3, 5, 9]), ([3, 10], [3, 10]), ([11, 3], [11]), ([12], [12]), ([12], [12]), ([13, 14, 12, 12], [12, 13, 14]), ([12], [12]), ([12], [12]), ([16, 17, 15, 12], [12, 16, 17]), ([12], [12]), ([18, 19, 12], [12, 18, 19]), ([15, 20, 12], [12, 15, 20]), ([12, 21], [12, 21])])
def laws_FnSpent.B10 : List Nat := [0, 1, 3, 7, 15, 31, 15, 79, 15, 463, 1023, 2047, 4095, 8191, 8191, 32767, 8191, 8191, 262143, 8191, 1048575, 2097151, 4194303]
theorem laws_FnSpent.tab10 : rtab .any (opsOf Try.f10 10) = laws_FnSpent.T10 := by kernel_rfl
theorem laws_FnSpent.bits10 : waitsOk laws_FnSpent.T10.2 laws_FnSpent.B10 = true := by kernel_rfl
def laws_FnSpent.T16 : Bool × List (List Nat × List Nat) := (true, [([], []), ([0], [0]), ([1], [1]), ([1, 2], [1, 2]), ([3, 1], [3]), ([4], [4]), ([5, 4], [4, 5]), ([4], [4]), ([7, 4], [4, 7]), ([6, 8, 4], [4, 6, 8]), ([4, 9], [4, 9]), ([10, 4], [10]), ([11], [11]), ([11], [11]), ([12, 13, 11, 11], [11, 12, 13]), ([11], [11]), ([11], [11]), ([15, 16, 14, 11], [11, 15, 16]), ([14, 17, 11], [11, 14, 17]), ([11, 18], [11, 18]), ([19, 17, 0, 1, 2, 3, 4, 5, 6, 7, 8, 9, 10, 11, 12, 13, 14, 15, 16, 17, 18, 19], [19])])
def laws_FnSpent.B16 : List Nat := [0, 1, 3, 7, 15, 31, 63, 31, 159, 511, 1023, 2047, 4095, 4095, 16383, 4095, 4095, 131071, 262143, 524287, 1048575]
theorem laws_FnSpent.tab16 : rtab .any (opsOf Try.f10 16) = laws_FnSpent.T16 := by kernel_rfl
theorem laws_FnSpent.bits16 : waitsOk laws_FnSpent.T16.2 laws_FnSpent.B16 = true := by kernel_rfl
set_option maxHeartbeats 8000000 in
set_option maxRecDepth 100000 in
theorem laws_FnSpent.calls (k : Nat) (A0 : Option Addr) (c0 : Nat) (l0 : List Int) (r : Bool) (w : World) (hr0 : Kd.C (Kd.int .u8) w A0 l0.length l0) (hc0 : l0.length ≤ c0) (h : laws_FnSpent.f k l0 = some r) :
    Calls Try.prog 10 #[.slice A0 l0.length c0] w fun e w' => e = .returned (.bool r) ∧ Below w.heap.size w w' := by
  have hu24 := Try.underlying24
  have HR0 := Aside0.mk hr0
  have HC0 := Aside0.mk hc0
  clear hr0 hc0
  have HB := As_ (Below.refl w.heap.size w)
  have H : ((laws_big.f l0).bind fun t448 => (if t448 = true then (some true) else ((spec_DrawSpend.f k l0).bind fun bt449 => ((impl_Spend.f k bt449.1 bt449.2.1 bt449.2.2.1 bt449.2.2.2.1 bt449.2.2.2.2).bind fun bt457 => ((spec_Spend.f k bt449.1 bt449.2.1 bt449.2.2.1 bt449.2.2.2.1 bt449.2.2.2.2).bind fun bt464 => (if (bt457.2.2.2 != bt464.2.2.2) = true then (none) else (if bt457.2.2.2 = true then ((impl_FlowOk.f k bt457.1 bt457.2.1 bt457.2.2.1).bind fun t473 => (if t473 = true then (if bt457.1 = (wrap64 (bt449.1 - bt449.2.2.2.2)) then ((impl_RoomOf.f k bt457.1 bt457.2.1 bt457.2.2.1 bt449.2.2.2.1).bind fun t474 => ((impl_RoomOf.f k bt449.1 bt449.2.1 bt449.2.2.1 bt449.2.2.2.1).bind fun t475 => (laws_FnSpent.j0 k bt449.2.2.2.1 bt449.2.2.2.2 (t474 != (wrap64 (t475 - bt449.2.2.2.2))) bt449.1 bt449.2.1 bt449.2.2.1 bt457.1 bt457.2.1 bt457.2.2.1))) else (laws_FnSpent.j0 k bt449.2.2.2.1 bt449.2.2.2.2 true bt449.1 bt449.2.1 bt449.2.2.1 bt457.1 bt457.2.1 bt457.2.2.1)) else (laws_FnSpent.j0 k bt449.2.2.2.1 bt449.2.2.2.2 true bt449.1 bt449.2.1 bt449.2.2.1 bt457.1 bt457.2.1 bt457.2.2.1))) else (if bt457.1 = bt449.1 then ((impl_RoomOf.f k bt457.1 bt457.2.1 bt457.2.2.1 bt449.2.2.2.1).bind fun t471 => ((impl_RoomOf.f k bt449.1 bt449.2.1 bt449.2.2.1 bt449.2.2.2.1).bind fun t472 => (some (t471 == t472)))) else (none))))))))) = some r := h
  clear h
  replace H := Option.bind_eq_some_iff.mp H
  obtain ⟨t448, A20, H⟩ := H
  replace H : (if t448 = true then (some true) else ((spec_DrawSpend.f k l0).bind fun bt449 => ((impl_Spend.f k bt449.1 bt449.2.1 bt449.2.2.1 bt449.2.2.2.1 bt449.2.2.2.2).bind fun bt457 => ((spec_Spend.f k bt449.1 bt449.2.1 bt449.2.2.1 bt449.2.2.2.1 bt449.2.2.2.2).bind fun bt464 => (if (bt457.2.2.2 != bt464.2.2.2) = true then (none) else (if bt457.2.2.2 = true then ((impl_FlowOk.f k bt457.1 bt457.2.1 bt457.2.2.1).bind fun t473 => (if t473 = true then (if bt457.1 = (wrap64 (bt449.1 - bt449.2.2.2.2)) then ((impl_RoomOf.f k bt457.1 bt457.2.1 bt457.2.2.1 bt449.2.2.2.1).bind fun t474 => ((impl_RoomOf.f k bt449.1 bt449.2.1 bt449.2.2.1 bt449.2.2.2.1).bind fun t475 => (laws_FnSpent.j0 k bt449.2.2.2.1 bt449.2.2.2.2 (t474 != (wrap64 (t475 - bt449.2.2.2.2))) bt449.1 bt449.2.1 bt449.2.2.1 bt457.1 bt457.2.1 bt457.2.2.1))) else (laws_FnSpent.j0 k bt449.2.2.2.1 bt449.2.2.2.2 true bt449.1 bt449.2.1 bt449.2.2.1 bt457.1 bt457.2.1 bt457.2.2.1)) else (laws_FnSpent.j0 k bt449.2.2.2.1 bt449.2.2.2.2 true bt449.1 bt449.2.1 bt449.2.2.1 bt457.1 bt457.2.1 bt457.2.2.1))) else (if bt457.1 = bt449.1 then ((impl_RoomOf.f k bt457.1 bt457.2.1 bt457.2.2.1 bt449.2.2.2.1).bind fun t471 => ((impl_RoomOf.f k bt449.1 bt449.2.1 bt449.2.2.1 bt449.2.2.2.1).bind fun t472 => (some (t471 == t472)))) else (none)))))))) = some r := H
  have A2 := Aside0.mk A20
  clear A20
  by_cases c3 : t448 = true
  · subst c3
    have H1 : (some true) = some r := by rw [if_pos rfl] at H; exact H
    clear H
    have H := H1
    clear H1
    obtain rfl := Option.some.inj H
    go_enter Try.func10, Try.ntmps10
    go_wp2_with (first | ((with_reducible refine gate_callee (f := 32) rfl ?_); refine goesL_ (some 15) rfl rfl Try.func32 (by kernel_rfl) rfl #[.slice A0 l0.length c0] rfl (by (try simp only [List.map_toArray, List.map_cons, List.map_nil]); first | done | rfl | (simp only [List.length_drop, List.length_take]; rfl)) ?_; (with_reducible refine (laws_big.calls _ _ l0 true _ ?side1 ?side2 A2.out).mono ?_); (case side1 => repeat (first | exact HR0.out | (with_reducible first | apply cA_ | apply cN_ | apply cD_))); (case side2 => exact HC0.out); rintro e w' ⟨rfl, ⟨nd, rfl⟩⟩; refine ⟨_, rfl, ?_⟩))
    go_ret
    exact ⟨by first | rfl | (simp [errW_none, errW_some] <;> rfl) | (simp [*, errW_none, errW_some] <;> rfl), by repeat (first | (with_reducible first | exact HB.out | apply bA_ | apply bN_ | apply bD_) | exact HB.out)⟩
  · replace c3 := Bool.eq_false_iff.mpr c3
    subst c3
    have H1 : ((spec_DrawSpend.f k l0).bind fun bt449 => ((impl_Spend.f k bt449.1 bt449.2.1 bt449.2.2.1 bt449.2.2.2.1 bt449.2.2.2.2).bind fun bt457 => ((spec_Spend.f k bt449.1 bt449.2.1 bt449.2.2.1 bt449.2.2.2.1 bt449.2.2.2.2).bind fun bt464 => (if (bt457.2.2.2 != bt464.2.2.2) = true then (none) else (if bt457.2.2.2 = true then ((impl_FlowOk.f k bt457.1 bt457.2.1 bt457.2.2.1).bind fun t473 => (if t473 = true then (if bt457.1 = (wrap64 (bt449.1 - bt449.2.2.2.2)) then ((impl_RoomOf.f k bt457.1 bt457.2.1 bt457.2.2.1 bt449.2.2.2.1).bind fun t474 => ((impl_RoomOf.f k bt449.1 bt449.2.1 bt449.2.2.1 bt449.2.2.2.1).bind fun t475 => (laws_FnSpent.j0 k bt449.2.2.2.1 bt449.2.2.2.2 (t474 != (wrap64 (t475 - bt449.2.2.2.2))) bt449.1 bt449.2.1 bt449.2.2.1 bt457.1 bt457.2.1 bt457.2.2.1))) else (laws_FnSpent.j0 k bt449.2.2.2.1 bt449.2.2.2.2 true bt449.1 bt449.2.1 bt449.2.2.1 bt457.1 bt457.2.1 bt457.2.2.1)) else (laws_FnSpent.j0 k bt449.2.2.2.1 bt449.2.2.2.2 true bt449.1 bt449.2.1 bt449.2.2.1 bt457.1 bt457.2.1 bt457.2.2.1))) else (if bt457.1 = bt449.1 then ((impl_RoomOf.f k bt457.1 bt457.2.1 bt457.2.2.1 bt449.2.2.2.1).bind fun t471 => ((impl_RoomOf.f k bt449.1 bt449.2.1 bt449.2.2.1 bt449.2.2.2.1).bind fun t472 => (some (t471 == t472)))) else (none))))))) = some r := by rw [if_neg (show ¬ (false = true) by decide)] at H; exact H
    clear H
    have H := H1
    clear H1
    replace H := Option.bind_eq_some_iff.mp H
    obtain ⟨⟨t449, t450, t451, t454, t455⟩, A40, H⟩ := H
    replace H : ((impl_Spend.f k t449 t450 t451 t454 t455).bind fun bt457 => ((spec_Spend.f k t449 t450 t451 t454 t455).bind fun bt464 => (if (bt457.2.2.2 != bt464.2.2.2) = true then (none) else (if bt457.2.2.2 = true then ((impl_FlowOk.f k bt457.1 bt457.2.1 bt457.2.2.1).bind fun t473 => (if t473 = true then (if bt457.1 = (wrap64 (t449 - t455)) then ((impl_RoomOf.f k bt457.1 bt457.2.1 bt457.2.2.1 t454).bind fun t474 => ((impl_RoomOf.f k t449 t450 t451 t454).bind fun t475 => (laws_FnSpent.j0 k t454 t455 (t474 != (wrap64 (t475 - t455))) t449 t450 t451 bt457.1 bt457.2.1 bt457.2.2.1))) else (laws_FnSpent.j0 k t454 t455 true t449 t450 t451 bt457.1 bt457.2.1 bt457.2.2.1)) else (laws_FnSpent.j0 k t454 t455 true t449 t450 t451 bt457.1 bt457.2.1 bt457.2.2.1))) else (if bt457.1 = t449 then ((impl_RoomOf.f k bt457.1 bt457.2.1 bt457.2.2.1 t454).bind fun t471 => ((impl_RoomOf.f k t449 t450 t451 t454).bind fun t472 => (some (t471 == t472)))) else (none)))))) = some r := H
    have A4 := Aside0.mk A40
    clear A40
    replace H := Option.bind_eq_some_iff.mp H
    obtain ⟨⟨t457, t458, t459, t462⟩, A50, H⟩ := H
    replace H : ((spec_Spend.f k t449 t450 t451 t454 t455).bind fun bt464 => (if (t462 != bt464.2.2.2) = true then (none) else (if t462 = true then ((impl_FlowOk.f k t457 t458 t459).bind fun t473 => (if t473 = true then (if t457 = (wrap64 (t449 - t455)) then ((impl_RoomOf.f k t457 t458 t459 t454).bind fun t474 => ((impl_RoomOf.f k t449 t450 t451 t454).bind fun t475 => (laws_FnSpent.j0 k t454 t455 (t474 != (wrap64 (t475 - t455))) t449 t450 t451 t457 t458 t459))) else (laws_FnSpent.j0 k t454 t455 true t449 t450 t451 t457 t458 t459)) else (laws_FnSpent.j0 k t454 t455 true t449 t450 t451 t457 t458 t459))) else (if t457 = t449 then ((impl_RoomOf.f k t457 t458 t459 t454).bind fun t471 => ((impl_RoomOf.f k t449 t450 t451 t454).bind fun t472 => (some (t471 == t472)))) else (none))))) = some r := H
    have A5 := Aside0.mk A50
    clear A50
    replace H := Option.bind_eq_some_iff.mp H
    obtain ⟨⟨t464, t465, t466, t469⟩, A60, H⟩ := H
    replace H : (if (t462 != t469) = true then (none) else (if t462 = true then ((impl_FlowOk.f k t457 t458 t459).bind fun t473 => (if t473 = true then (if t457 = (wrap64 (t449 - t455)) then ((impl_RoomOf.f k t457 t458 t459 t454).bind fun t474 => ((impl_RoomOf.f k t449 t450 t451 t454).bind fun t475 => (laws_FnSpent.j0 k t454 t455 (t474 != (wrap64 (t475 - t455))) t449 t450 t451 t457 t458 t459))) else (laws_FnSpent.j0 k t454 t455 true t449 t450 t451 t457 t458 t459)) else (laws_FnSpent.j0 k t454 t455 true t449 t450 t451 t457 t458 t459))) else (if t457 = t449 then ((impl_RoomOf.f k t457 t458 t459 t454).bind fun t471 => ((impl_RoomOf.f k t449 t450 t451 t454).bind fun t472 => (some (t471 == t472)))) else (none)))) = some r := H
    have A6 := Aside0.mk A60
    clear A60
    by_cases c7 : (t462 != t469) = true
    · rw [if_pos c7] at H
      exact absurd H (by simp)
    · rw [if_neg c7] at H
      have c7b0 : (t462 != t469) = false := by simpa using c7
      (try (have c7b1 : decide (t462 = t469) = true := by simpa using c7))
      (try (have c7b2 : (t462 == t469) = true := by simpa using c7))
      clear c7
      by_cases c8 : t462 = true
      · subst c8
        have H1 : ((impl_FlowOk.f k t457 t458 t459).bind fun t473 => (if t473 = true then (if t457 = (wrap64 (t449 - t455)) then ((impl_RoomOf.f k t457 t458 t459 t454).bind fun t474 => ((impl_RoomOf.f k t449 t450 t451 t454).bind fun t475 => (laws_FnSpent.j0 k t454 t455 (t474 != (wrap64 (t475 - t455))) t449 t450 t451 t457 t458 t459))) else (laws_FnSpent.j0 k t454 t455 true t449 t450 t451 t457 t458 t459)) else (laws_FnSpent.j0 k t454 t455 true t449 t450 t451 t457 t458 t459))) = some r := by rw [if_pos rfl] at H; exact H
        clear H
        have H := H1
        clear H1
        have HC9 := Aside0.mk H
        clear H
        go_enter Try.func10, Try.ntmps10
        go_upto_region 10 with (first | ((with_reducible refine gate_callee (f := 32) rfl ?_); refine goesL_ (some 15) rfl rfl Try.func32 (by kernel_rfl) rfl #[.slice A0 l0.length c0] rfl (by (try simp only [List.map_toArray, List.map_cons, List.map_nil]); first | done | rfl | (simp only [List.length_drop, List.length_take]; rfl)) ?_; (with_reducible refine (laws_big.calls _ _ l0 false _ ?side1 ?side2 A2.out).mono ?_); (case side1 => repeat (first | exact HR0.out | (with_reducible first | apply cA_ | apply cN_ | apply cD_))); (case side2 => exact HC0.out); rintro e w' ⟨rfl, ⟨nd, rfl⟩⟩; refine ⟨_, rfl, ?_⟩) | ((with_reducible refine gate_callee (f := 33) rfl ?_); refine goesL_ (some 18) rfl rfl Try.func33 (by kernel_rfl) rfl #[.slice A0 l0.length c0] rfl (by (try simp only [List.map_toArray, List.map_cons, List.map_nil]); first | done | rfl | (simp only [List.length_drop, List.length_take]; rfl)) ?_; (with_reducible refine (spec_DrawSpend.calls k _ _ l0 t449 t450 t451 t454 t455 _ ?side1 ?side2 A4.out).mono ?_); (case side1 => repeat (first | exact HR0.out | (with_reducible first | apply cA_ | apply cN_ | apply cD_))); (case side2 => exact HC0.out); rintro e w10 ⟨v452, rfl, ho0, hb⟩; refine ⟨_, rfl, ?_⟩; have HO453 := As_ (Kd.R_lower ho0 (below_size (by repeat (first | (with_reducible first | exact HB.out | apply bA_ | apply bN_ | apply bD_) | exact HB.out)))); replace HB := As_ (below_step (by repeat (first | (with_reducible first | exact HB.out | apply bA_ | apply bN_ | apply bD_) | exact HB.out)) hb); (try clear hb); (try clear hb2); (try clear hk); (try clear hi); (try clear ho0)) | ((with_reducible refine gate_dst (N := 3) rfl ?_); refine box_event ?hg (N := 3) ?hd (cs := #[.int .i64 0, .int .i64 0, .slice none 0 0]) (t := 24) ?hr ?_; (case hd => rfl); (case hg => rfl); (case hr => first | (go_simp; done) | (go_simp; rfl)); intro gb456 hg w11 hbox hb; have n0_ := As_ (Kd.R_below (by (with_reducible repeat (first | apply rA_ | apply rN_ | apply rD_)); exact HO453.out) hb); have n1_ := As_ (below_step (by repeat (first | (with_reducible first | exact HB.out | apply bA_ | apply bN_ | apply bD_) | exact HB.out)) hb); have n2_ := As_ (hbox); have n3_ := As_ ((by rw [hg]; exact (below_size (by repeat (first | (with_reducible first | exact HB.out | apply bA_ | apply bN_ | apply bD_) | exact HB.out))) : w.heap.size ≤ gb456)); have n4_ := As_ ((by rw [hg]; exact (below_size (by repeat (first | (with_reducible first | exact HB.out | apply bA_ | apply bN_ | apply bD_) | exact HB.out))) : w.heap.size ≤ gb456)); clear HO453 HB; have HO453 := n0_; have HB := n1_; have BK456 := n2_; have GW456 := n3_; have GE456 := n4_; clear n0_ n1_ n2_ n3_ n4_ hb hbox hg; obtain ⟨hcz12_0, hcz12_1, hcz12_2, hfz12_0, hfz12_1, hfz12_2⟩ := blk_all3 BK456.out; obtain ⟨Ao13, co13, eo13⟩ := Kd.R_slice HO453.out; subst eo13) | ((with_reducible refine gate_callee (f := 31) rfl ?_); refine goesL_ (some 26) rfl rfl Try.func31 (by kernel_rfl) rfl #[.agg #[.int .i64 t449, .int .i64 t450, .slice Ao13 t451.length co13], .int .i64 t454, .int .i64 t455] rfl (by (try simp only [List.map_toArray, List.map_cons, List.map_nil]); first | done | rfl | (simp only [List.length_drop, List.length_take]; rfl)) ?_; (with_reducible refine (impl_Spend.calls k t449 t450 _ _ t451 t454 t455 t457 t458 t459 true _ ?side1 ?side2 A5.out).mono ?_); (case side1 => refine (Kd.R_reads' (e := 48) (base := w.heap.size) (ok := fun k_ => True) (n := t451.length) (c := co13) ?_).2.2; exact (by (with_reducible repeat (first | apply rA_ | apply rN_ | apply rD_)); exact (Kd.R_mono (Kd.R_far (p := ⟨gb456, 2, none⟩) (Kd.R_far (p := ⟨gb456, 1, none⟩) (Kd.R_far (p := ⟨gb456, 0, none⟩) (Kd.R_types HO453.out BK456.out (by decide)) (fun _ hk => hk.2) (.int .i64 t449)) (fun _ hk => hk.2) (.int .i64 t450)) (fun _ hk => hk.2) (.slice Ao13 t451.length co13)) (fun _ h_ => h_.1)))); (case side2 => exact (Kd.R_reads' HO453.out).2.1); rintro e w14 ⟨v460, rfl, ho0, hb⟩; refine ⟨_, rfl, ?_⟩; have n0_ := As_ (Kd.R_elder' (by (with_reducible repeat (first | apply rA_ | apply rN_ | apply rD_)); exact (Kd.R_mono (Kd.R_far (p := ⟨gb456, 2, none⟩) (Kd.R_far (p := ⟨gb456, 1, none⟩) (Kd.R_far (p := ⟨gb456, 0, none⟩) (Kd.R_types HO453.out BK456.out (by decide)) (fun _ hk => hk.2) (.int .i64 t449)) (fun _ hk => hk.2) (.int .i64 t450)) (fun _ hk => hk.2) (.slice Ao13 t451.length co13)) (fun _ h_ => h_.1))) (Kd.R_base ho0) hb); have HO461 := As_ (Kd.R_lower (Kd.R_new' ho0 (Kd.R_lt (by (with_reducible repeat (first | apply rA_ | apply rN_ | apply rD_)); exact (Kd.R_mono (Kd.R_far (p := ⟨gb456, 2, none⟩) (Kd.R_far (p := ⟨gb456, 1, none⟩) (Kd.R_far (p := ⟨gb456, 0, none⟩) (Kd.R_types HO453.out BK456.out (by decide)) (fun _ hk => hk.2) (.int .i64 t449)) (fun _ hk => hk.2) (.int .i64 t450)) (fun _ hk => hk.2) (.slice Ao13 t451.length co13)) (fun _ h_ => h_.1))))) (below_size (by repeat (first | (with_reducible first | exact HB.out | apply bA_ | apply bN_ | apply bD_ | refine bS_ ?_ GE456.out) | exact HB.out)))); replace BK456 := As_ (blk_below (g := gb456) (o := .cells #[.int .i64 t449, .int .i64 t450, .slice Ao13 t451.length co13] 24 (0, 0)) (by (with_reducible repeat (first | apply kN_ | apply kD_ | apply kA_)); refine blk_put (cs := #[.int .i64 t449, .int .i64 t450, .slice none 0 0]) ?_ 2 _ rfl; (with_reducible repeat (first | apply kN_ | apply kD_ | apply kA_)); refine blk_put (cs := #[.int .i64 t449, .int .i64 0, .slice none 0 0]) ?_ 1 _ rfl; (with_reducible repeat (first | apply kN_ | apply kD_ | apply kA_)); refine blk_put (cs := #[.int .i64 0, .int .i64 0, .slice none 0 0]) ?_ 0 _ rfl; (with_reducible repeat (first | apply kN_ | apply kD_ | apply kA_)); exact BK456.out) hb); replace HB := As_ (below_step (by repeat (first | (with_reducible first | exact HB.out | apply bA_ | apply bN_ | apply bD_ | refine bS_ ?_ GE456.out) | exact HB.out)) hb); clear HO453; have HO453 := n0_; clear n0_; (try clear hb); (try clear hb2); (try clear hk); (try clear hi); (try clear ho0)) | ((with_reducible refine gate_dst (N := 6) rfl ?_); refine box_event ?hg (N := 6) ?hd (cs := #[.int .i64 0, .int .i64 0, .slice none 0 0]) (t := 24) ?hr ?_; (case hd => rfl); (case hg => rfl); (case hr => first | (go_simp; done) | (go_simp; rfl)); intro gb463 hg w15 hbox hb; have n0_ := As_ (Kd.R_below (by (with_reducible repeat (first | apply rA_ | apply rN_ | apply rD_)); exact HO453.out) hb); have n1_ := As_ (Kd.R_below (by (with_reducible repeat (first | apply rA_ | apply rN_ | apply rD_)); exact HO461.out) hb); have n2_ := As_ (blk_below (g := gb456) (o := .cells #[.int .i64 t449, .int .i64 t450, .slice Ao13 t451.length co13] 24 (0, 0)) (by (with_reducible repeat (first | apply kN_ | apply kD_ | apply kA_)); exact BK456.out) hb); have n3_ := As_ (below_step (by repeat (first | (with_reducible first | exact HB.out | apply bA_ | apply bN_ | apply bD_ | refine bS_ ?_ GE456.out) | exact HB.out)) hb); have n4_ := As_ (hbox); have n5_ := As_ ((by rw [hg]; exact (below_size (by repeat (first | (with_reducible first | exact HB.out | apply bA_ | apply bN_ | apply bD_ | refine bS_ ?_ GE456.out) | exact HB.out))) : w.heap.size ≤ gb463)); have n6_ := As_ ((by rw [hg]; exact (below_size (by repeat (first | (with_reducible first | exact HB.out | apply bA_ | apply bN_ | apply bD_ | refine bS_ ?_ GE456.out) | exact HB.out))) : w.heap.size ≤ gb463)); have n7_ := As_ ((by rw [hg]; exact Nat.ne_of_lt (blk_lt (g := gb456) (o := .cells #[.int .i64 t449, .int .i64 t450, .slice Ao13 t451.length co13] 24 (0, 0)) (by (with_reducible repeat (first | apply kN_ | apply kD_ | apply kA_)); exact BK456.out)) : gb456 ≠ gb463)); have n8_ := As_ ((by rw [hg]; exact Nat.ne_of_gt (blk_lt (g := gb456) (o := .cells #[.int .i64 t449, .int .i64 t450, .slice Ao13 t451.length co13] 24 (0, 0)) (by (with_reducible repeat (first | apply kN_ | apply kD_ | apply kA_)); exact BK456.out)) : gb463 ≠ gb456)); clear HO453 HO461 BK456 HB; have HO453 := n0_; have HO461 := n1_; have BK456 := n2_; have HB := n3_; have BK463 := n4_; have GW463 := n5_; have GE463 := n6_; have NB456_463 := n7_; have NB463_456 := n8_; clear n0_ n1_ n2_ n3_ n4_ n5_ n6_ n7_ n8_ hb hbox hg; have hnb16 := NB463_456.out; have hnc16 := NB456_463.out; obtain ⟨hcz17_0, hcz17_1, hcz17_2, hfz17_0, hfz17_1, hfz17_2⟩ := blk_all3 BK463.out; obtain ⟨Ao18, co18, eo18⟩ := Kd.R_slice HO461.out; subst eo18; obtain ⟨hcz19_0, hcz19_1, hcz19_2, hfz19_0, hfz19_1, hfz19_2⟩ := blk_all3 BK456.out) | ((with_reducible refine gate_callee (f := 30) rfl ?_); refine goesL_ (some 33) rfl rfl Try.func30 (by kernel_rfl) rfl #[.agg #[.int .i64 t449, .int .i64 t450, .slice Ao13 t451.length co13], .int .i64 t454, .int .i64 t455] rfl (by (try simp only [List.map_toArray, List.map_cons, List.map_nil]); first | done | rfl | (simp only [List.length_drop, List.length_take]; rfl)) ?_; (with_reducible refine (spec_Spend.calls k t449 t450 _ _ t451 t454 t455 t464 t465 t466 t469 _ ?side1 ?side2 A6.out).mono ?_); (case side1 => refine (Kd.R_reads' (e := 48) (base := w.heap.size) (ok := fun k_ => (True ∧ some k_ ≠ (.slice Ao18 t459.length co18 : Value).ownBlock)) (n := t451.length) (c := co13) ?_).2.2; exact (by (with_reducible repeat (first | apply rA_ | apply rN_ | apply rD_)); exact (Kd.R_mono (Kd.R_far (p := ⟨gb463, 2, none⟩) (Kd.R_far (p := ⟨gb463, 1, none⟩) (Kd.R_far (p := ⟨gb463, 0, none⟩) (Kd.R_types HO453.out BK463.out (by decide)) (fun _ hk => hk.2) (.int .i64 t457)) (fun _ hk => hk.2) (.int .i64 t458)) (fun _ hk => hk.2) (.slice Ao18 t459.length co18)) (fun _ h_ => h_.1)))); (case side2 => exact (Kd.R_reads' HO453.out).2.1); rintro e w20 ⟨v467, rfl, ho0, hb⟩; refine ⟨_, rfl, ?_⟩; have n0_ := As_ (Kd.R_elder' (by (with_reducible repeat (first | apply rA_ | apply rN_ | apply rD_)); exact (Kd.R_mono (Kd.R_far (p := ⟨gb463, 2, none⟩) (Kd.R_far (p := ⟨gb463, 1, none⟩) (Kd.R_far (p := ⟨gb463, 0, none⟩) (Kd.R_types HO453.out BK463.out (by decide)) (fun _ hk => hk.2) (.int .i64 t457)) (fun _ hk => hk.2) (.int .i64 t458)) (fun _ hk => hk.2) (.slice Ao18 t459.length co18)) (fun _ h_ => h_.1))) (Kd.R_base ho0) hb); have n1_ := As_ (Kd.R_elder' (by (with_reducible repeat (first | apply rA_ | apply rN_ | apply rD_)); exact (Kd.R_mono (Kd.R_far (p := ⟨gb463, 2, none⟩) (Kd.R_far (p := ⟨gb463, 1, none⟩) (Kd.R_far (p := ⟨gb463, 0, none⟩) (Kd.R_types HO461.out BK463.out (by decide)) (fun _ hk => hk.2) (.int .i64 t457)) (fun _ hk => hk.2) (.int .i64 t458)) (fun _ hk => hk.2) (.slice Ao18 t459.length co18)) (fun _ h_ => h_.1))) (Kd.R_base ho0) hb); have HO468 := As_ (Kd.R_lower (Kd.R_new' (Kd.R_new' ho0 (Kd.R_lt (by (with_reducible repeat (first | apply rA_ | apply rN_ | apply rD_)); exact (Kd.R_mono (Kd.R_far (p := ⟨gb463, 2, none⟩) (Kd.R_far (p := ⟨gb463, 1, none⟩) (Kd.R_far (p := ⟨gb463, 0, none⟩) (Kd.R_types HO453.out BK463.out (by decide)) (fun _ hk => hk.2) (.int .i64 t457)) (fun _ hk => hk.2) (.int .i64 t458)) (fun _ hk => hk.2) (.slice Ao18 t459.length co18)) (fun _ h_ => h_.1))))) (Kd.R_lt (by (with_reducible repeat (first | apply rA_ | apply rN_ | apply rD_)); exact (Kd.R_mono (Kd.R_far (p := ⟨gb463, 2, none⟩) (Kd.R_far (p := ⟨gb463, 1, none⟩) (Kd.R_far (p := ⟨gb463, 0, none⟩) (Kd.R_types HO461.out BK463.out (by decide)) (fun _ hk => hk.2) (.int .i64 t457)) (fun _ hk => hk.2) (.int .i64 t458)) (fun _ hk => hk.2) (.slice Ao18 t459.length co18)) (fun _ h_ => h_.1))))) (below_size (by repeat (first | (with_reducible first | exact HB.out | apply bA_ | apply bN_ | apply bD_ | refine bS_ ?_ GE456.out | refine bS_ ?_ GE463.out) | exact HB.out)))); replace BK456 := As_ (blk_below (g := gb456) (o := .cells #[.int .i64 t449, .int .i64 t450, .slice Ao13 t451.length co13] 24 (0, 0)) (by (with_reducible repeat (first | apply kN_ | apply kD_ | apply kA_)); refine blk_far ?_ NB456_463.out _; (with_reducible repeat (first | apply kN_ | apply kD_ | apply kA_)); refine blk_far ?_ NB456_463.out _; (with_reducible repeat (first | apply kN_ | apply kD_ | apply kA_)); refine blk_far ?_ NB456_463.out _; (with_reducible repeat (first | apply kN_ | apply kD_ | apply kA_)); exact BK456.out) hb); replace BK463 := As_ (blk_below (g := gb463) (o := .cells #[.int .i64 t457, .int .i64 t458, .slice Ao18 t459.length co18] 24 (0, 0)) (by (with_reducible repeat (first | apply kN_ | apply kD_ | apply kA_)); refine blk_put (cs := #[.int .i64 t457, .int .i64 t458, .slice none 0 0]) ?_ 2 _ rfl; (with_reducible repeat (first | apply kN_ | apply kD_ | apply kA_)); refine blk_put (cs := #[.int .i64 t457, .int .i64 0, .slice none 0 0]) ?_ 1 _ rfl; (with_reducible repeat (first | apply kN_ | apply kD_ | apply kA_)); refine blk_put (cs := #[.int .i64 0, .int .i64 0, .slice none 0 0]) ?_ 0 _ rfl; (with_reducible repeat (first | apply kN_ | apply kD_ | apply kA_)); exact BK463.out) hb); replace HB := As_ (below_step (by repeat (first | (with_reducible first | exact HB.out | apply bA_ | apply bN_ | apply bD_ | refine bS_ ?_ GE456.out | refine bS_ ?_ GE463.out) | exact HB.out)) hb); clear HO453 HO461; have HO453 := n0_; have HO461 := n1_; clear n0_ n1_; (try clear hb); (try clear hb2); (try clear hk); (try clear hi); (try clear ho0)) | ((with_reducible refine gate_dst (N := 8) rfl ?_); refine box_event ?hg (N := 8) ?hd (cs := #[.int .i64 0, .int .i64 0, .slice none 0 0]) (t := 24) ?hr ?_; (case hd => rfl); (case hg => rfl); (case hr => first | (go_simp; done) | (go_simp; rfl)); intro gb470 hg w21 hbox hb; have n0_ := As_ (Kd.R_below (by (with_reducible repeat (first | apply rA_ | apply rN_ | apply rD_)); exact HO453.out) hb); have n1_ := As_ (Kd.R_below (by (with_reducible repeat (first | apply rA_ | apply rN_ | apply rD_)); exact HO461.out) hb); have n2_ := As_ (Kd.R_below (by (with_reducible repeat (first | apply rA_ | apply rN_ | apply rD_)); exact HO468.out) hb); have n3_ := As_ (blk_below (g := gb456) (o := .cells #[.int .i64 t449, .int .i64 t450, .slice Ao13 t451.length co13] 24 (0, 0)) (by (with_reducible repeat (first | apply kN_ | apply kD_ | apply kA_)); exact BK456.out) hb); have n4_ := As_ (blk_below (g := gb463) (o := .cells #[.int .i64 t457, .int .i64 t458, .slice Ao18 t459.length co18] 24 (0, 0)) (by (with_reducible repeat (first | apply kN_ | apply kD_ | apply kA_)); exact BK463.out) hb); have n5_ := As_ (below_step (by repeat (first | (with_reducible first | exact HB.out | apply bA_ | apply bN_ | apply bD_ | refine bS_ ?_ GE456.out | refine bS_ ?_ GE463.out) | exact HB.out)) hb); have n6_ := As_ (hbox); have n7_ := As_ ((by rw [hg]; exact (below_size (by repeat (first | (with_reducible first | exact HB.out | apply bA_ | apply bN_ | apply bD_ | refine bS_ ?_ GE456.out | refine bS_ ?_ GE463.out) | exact HB.out))) : w.heap.size ≤ gb470)); have n8_ := As_ ((by rw [hg]; exact (below_size (by repeat (first | (with_reducible first | exact HB.out | apply bA_ | apply bN_ | apply bD_ | refine bS_ ?_ GE456.out | refine bS_ ?_ GE463.out) | exact HB.out))) : w.heap.size ≤ gb470)); have n9_ := As_ ((by rw [hg]; exact Nat.ne_of_lt (blk_lt (g := gb456) (o := .cells #[.int .i64 t449, .int .i64 t450, .slice Ao13 t451.length co13] 24 (0, 0)) (by (with_reducible repeat (first | apply kN_ | apply kD_ | apply kA_)); exact BK456.out)) : gb456 ≠ gb470)); have n10_ := As_ ((by rw [hg]; exact Nat.ne_of_gt (blk_lt (g := gb456) (o := .cells #[.int .i64 t449, .int .i64 t450, .slice Ao13 t451.length co13] 24 (0, 0)) (by (with_reducible repeat (first | apply kN_ | apply kD_ | apply kA_)); exact BK456.out)) : gb470 ≠ gb456)); have n11_ := As_ ((by rw [hg]; exact Nat.ne_of_lt (blk_lt (g := gb463) (o := .cells #[.int .i64 t457, .int .i64 t458, .slice Ao18 t459.length co18] 24 (0, 0)) (by (with_reducible repeat (first | apply kN_ | apply kD_ | apply kA_)); exact BK463.out)) : gb463 ≠ gb470)); have n12_ := As_ ((by rw [hg]; exact Nat.ne_of_gt (blk_lt (g := gb463) (o := .cells #[.int .i64 t457, .int .i64 t458, .slice Ao18 t459.length co18] 24 (0, 0)) (by (with_reducible repeat (first | apply kN_ | apply kD_ | apply kA_)); exact BK463.out)) : gb470 ≠ gb463)); clear HO453 HO461 HO468 BK456 BK463 HB; have HO453 := n0_; have HO461 := n1_; have HO468 := n2_; have BK456 := n3_; have BK463 := n4_; have HB := n5_; have BK470 := n6_; have GW470 := n7_; have GE470 := n8_; have NB456_470 := n9_; have NB470_456 := n10_; have NB463_470 := n11_; have NB470_463 := n12_; clear n0_ n1_ n2_ n3_ n4_ n5_ n6_ n7_ n8_ n9_ n10_ n11_ n12_ hb hbox hg; have hnb22 := NB470_456.out; have hnc22 := NB456_470.out; have hnb23 := NB470_463.out; have hnc23 := NB463_470.out; obtain ⟨hcz24_0, hcz24_1, hcz24_2, hfz24_0, hfz24_1, hfz24_2⟩ := blk_all3 BK470.out; obtain ⟨Ao25, co25, eo25⟩ := Kd.R_slice HO468.out; subst eo25))
        (try simp only [Act.put, List.setIfInBounds_toArray, List.set_cons_zero, List.set_cons_succ])
        go_cut [77] (fun v77 wc => ∃ (kq : Nat) (x77_8 : Bool), v77 = .bool x77_8 ∧ Aside0 (laws_FnSpent.j0 kq t454 t455 x77_8 t449 t450 t451 t457 t458 t459 = some r) ∧ Aside0 (kq ≤ k) ∧ Aside0 (Kd.R k48 48 wc w.heap.size (fun k_ => some k_ ≠ ((.slice Ao18 t459.length co18) : Value).ownBlock ∧ some k_ ≠ ((.slice Ao25 t466.length co25) : Value).ownBlock) (.slice Ao13 t451.length co13) t451) ∧ Aside0 (Kd.R k48 48 wc w.heap.size (fun k_ => some k_ ≠ ((.slice Ao13 t451.length co13) : Value).ownBlock ∧ some k_ ≠ ((.slice Ao25 t466.length co25) : Value).ownBlock) (.slice Ao18 t459.length co18) t459) ∧ Aside0 (Kd.R k48 48 wc w.heap.size (fun k_ => some k_ ≠ ((.slice Ao13 t451.length co13) : Value).ownBlock ∧ some k_ ≠ ((.slice Ao18 t459.length co18) : Value).ownBlock) (.slice Ao25 t466.length co25) t466) ∧ Aside0 (wc.heap[gb456]? = some (.cells #[.int .i64 t449, .int .i64 t450, (.slice Ao13 t451.length co13)] 24 (0, 0))) ∧ Aside0 (wc.heap[gb463]? = some (.cells #[.int .i64 t457, .int .i64 t458, (.slice Ao18 t459.length co18)] 24 (0, 0))) ∧ Aside0 (wc.heap[gb470]? = some (.cells #[.int .i64 t464, .int .i64 t465, (.slice Ao25 t466.length co25)] 24 (0, 0))) ∧ Aside0 (Below w.heap.size w wc))
        case first =>
          have H := HC9.out
          clear HC9
          replace H := Option.bind_eq_some_iff.mp H
          obtain ⟨t473, A260, H⟩ := H
          replace H : (if t473 = true then (if t457 = (wrap64 (t449 - t455)) then ((impl_RoomOf.f k t457 t458 t459 t454).bind fun t474 => ((impl_RoomOf.f k t449 t450 t451 t454).bind fun t475 => (laws_FnSpent.j0 k t454 t455 (t474 != (wrap64 (t475 - t455))) t449 t450 t451 t457 t458 t459))) else (laws_FnSpent.j0 k t454 t455 true t449 t450 t451 t457 t458 t459)) else (laws_FnSpent.j0 k t454 t455 true t449 t450 t451 t457 t458 t459)) = some r := H
          have A26 := Aside0.mk A260
          clear A260
          by_cases c27 : t473 = true
          · subst c27
            have H1 : (if t457 = (wrap64 (t449 - t455)) then ((impl_RoomOf.f k t457 t458 t459 t454).bind fun t474 => ((impl_RoomOf.f k t449 t450 t451 t454).bind fun t475 => (laws_FnSpent.j0 k t454 t455 (t474 != (wrap64 (t475 - t455))) t449 t450 t451 t457 t458 t459))) else (laws_FnSpent.j0 k t454 t455 true t449 t450 t451 t457 t458 t459)) = some r := by rw [if_pos rfl] at H; exact H
            clear H
            have H := H1
            clear H1
            by_cases c28 : t457 = (wrap64 (t449 - t455))
            · rw [if_pos c28] at H
              have c28b0 : (t457 == (wrap64 (t449 - t455))) = true := beq_iff_eq.mpr c28
              have c28b1 : (t457 != (wrap64 (t449 - t455))) = false := bne_eq_false_iff_eq.mpr c28
              clear c28
              (first | rw [c28b0] | (simp only [i64_w, i32_w]; rw [c28b0]) | skip)
              replace H := Option.bind_eq_some_iff.mp H
              obtain ⟨t474, A290, H⟩ := H
              replace H : ((impl_RoomOf.f k t449 t450 t451 t454).bind fun t475 => (laws_FnSpent.j0 k t454 t455 (t474 != (wrap64 (t475 - t455))) t449 t450 t451 t457 t458 t459)) = some r := H
              have A29 := Aside0.mk A290
              clear A290
              replace H := Option.bind_eq_some_iff.mp H
              obtain ⟨t475, A300, H⟩ := H
              replace H : (laws_FnSpent.j0 k t454 t455 (t474 != (wrap64 (t475 - t455))) t449 t450 t451 t457 t458 t459) = some r := H
              have A30 := Aside0.mk A300
              clear A300
              have H' := Aside0.mk H
              clear H
              try go_wp2
              have n0_ : Aside0 (Kd.R k48 48 (((w21.setCell ⟨gb470, 0, none⟩ (.int .i64 t464)).setCell ⟨gb470, 1, none⟩ (.int .i64 t465)).setCell ⟨gb470, 2, none⟩ (.slice Ao25 t466.length co25)) w.heap.size (fun k_ => some k_ ≠ (.slice Ao18 t459.length co18 : Value).ownBlock ∧ some k_ ≠ (.slice Ao25 t466.length co25 : Value).ownBlock) (.slice Ao13 t451.length co13) t451) := ⟨by (with_reducible repeat (first | apply rA_ | apply rN_ | apply rD_)); exact Kd.R_mono (Kd.R_far (p := ⟨gb470, 2, none⟩) (Kd.R_far (p := ⟨gb470, 1, none⟩) (Kd.R_far (p := ⟨gb470, 0, none⟩) (Kd.R_types HO453.out BK470.out (by decide)) (fun _ hk => hk.2) (.int .i64 t464)) (fun _ hk => hk.2) (.int .i64 t465)) (fun _ hk => hk.2) (.slice Ao25 t466.length co25)) (fun _ hk => ⟨hk.1.1.2, hk.1.2⟩)⟩
              have n1_ : Aside0 (Kd.R k48 48 (((w21.setCell ⟨gb470, 0, none⟩ (.int .i64 t464)).setCell ⟨gb470, 1, none⟩ (.int .i64 t465)).setCell ⟨gb470, 2, none⟩ (.slice Ao25 t466.length co25)) w.heap.size (fun k_ => some k_ ≠ (.slice Ao13 t451.length co13 : Value).ownBlock ∧ some k_ ≠ (.slice Ao25 t466.length co25 : Value).ownBlock) (.slice Ao18 t459.length co18) t459) := ⟨by (with_reducible repeat (first | apply rA_ | apply rN_ | apply rD_)); exact Kd.R_mono (Kd.R_far (p := ⟨gb470, 2, none⟩) (Kd.R_far (p := ⟨gb470, 1, none⟩) (Kd.R_far (p := ⟨gb470, 0, none⟩) (Kd.R_types HO461.out BK470.out (by decide)) (fun _ hk => hk.2) (.int .i64 t464)) (fun _ hk => hk.2) (.int .i64 t465)) (fun _ hk => hk.2) (.slice Ao25 t466.length co25)) (fun _ hk => ⟨hk.1.1.2, hk.1.2⟩)⟩
              have n2_ : Aside0 (Kd.R k48 48 (((w21.setCell ⟨gb470, 0, none⟩ (.int .i64 t464)).setCell ⟨gb470, 1, none⟩ (.int .i64 t465)).setCell ⟨gb470, 2, none⟩ (.slice Ao25 t466.length co25)) w.heap.size (fun k_ => some k_ ≠ (.slice Ao13 t451.length co13 : Value).ownBlock ∧ some k_ ≠ (.slice Ao18 t459.length co18 : Value).ownBlock) (.slice Ao25 t466.length co25) t466) := ⟨by (with_reducible repeat (first | apply rA_ | apply rN_ | apply rD_)); exact Kd.R_mono (Kd.R_far (p := ⟨gb470, 2, none⟩) (Kd.R_far (p := ⟨gb470, 1, none⟩) (Kd.R_far (p := ⟨gb470, 0, none⟩) (Kd.R_types HO468.out BK470.out (by decide)) (fun _ hk => hk.2) (.int .i64 t464)) (fun _ hk => hk.2) (.int .i64 t465)) (fun _ hk => hk.2) (.slice Ao25 t466.length co25)) (fun _ hk => ⟨hk.1.1.2, hk.1.2⟩)⟩
              have n3_ : Aside0 ((((w21.setCell ⟨gb470, 0, none⟩ (.int .i64 t464)).setCell ⟨gb470, 1, none⟩ (.int .i64 t465)).setCell ⟨gb470, 2, none⟩ (.slice Ao25 t466.length co25)).heap[gb456]? = some (.cells #[.int .i64 t449, .int .i64 t450, .slice Ao13 t451.length co13] 24 (0, 0))) := ⟨by (with_reducible repeat (first | apply kN_ | apply kD_ | apply kA_)); refine blk_far ?_ NB456_470.out _; (with_reducible repeat (first | apply kN_ | apply kD_ | apply kA_)); refine blk_far ?_ NB456_470.out _; (with_reducible repeat (first | apply kN_ | apply kD_ | apply kA_)); refine blk_far ?_ NB456_470.out _; (with_reducible repeat (first | apply kN_ | apply kD_ | apply kA_)); exact BK456.out⟩
              have n4_ : Aside0 ((((w21.setCell ⟨gb470, 0, none⟩ (.int .i64 t464)).setCell ⟨gb470, 1, none⟩ (.int .i64 t465)).setCell ⟨gb470, 2, none⟩ (.slice Ao25 t466.length co25)).heap[gb463]? = some (.cells #[.int .i64 t457, .int .i64 t458, .slice Ao18 t459.length co18] 24 (0, 0))) := ⟨by (with_reducible repeat (first | apply kN_ | apply kD_ | apply kA_)); refine blk_far ?_ NB463_470.out _; (with_reducible repeat (first | apply kN_ | apply kD_ | apply kA_)); refine blk_far ?_ NB463_470.out _; (with_reducible repeat (first | apply kN_ | apply kD_ | apply kA_)); refine blk_far ?_ NB463_470.out _; (with_reducible repeat (first | apply kN_ | apply kD_ | apply kA_)); exact BK463.out⟩
              have n5_ : Aside0 ((((w21.setCell ⟨gb470, 0, none⟩ (.int .i64 t464)).setCell ⟨gb470, 1, none⟩ (.int .i64 t465)).setCell ⟨gb470, 2, none⟩ (.slice Ao25 t466.length co25)).heap[gb470]? = some (.cells #[.int .i64 t464, .int .i64 t465, .slice Ao25 t466.length co25] 24 (0, 0))) := ⟨by (with_reducible repeat (first | apply kN_ | apply kD_ | apply kA_)); refine blk_put (cs := #[.int .i64 t464, .int .i64 t465, .slice none 0 0]) ?_ 2 _ rfl; (with_reducible repeat (first | apply kN_ | apply kD_ | apply kA_)); refine blk_put (cs := #[.int .i64 t464, .int .i64 0, .slice none 0 0]) ?_ 1 _ rfl; (with_reducible repeat (first | apply kN_ | apply kD_ | apply kA_)); refine blk_put (cs := #[.int .i64 0, .int .i64 0, .slice none 0 0]) ?_ 0 _ rfl; (with_reducible repeat (first | apply kN_ | apply kD_ | apply kA_)); exact BK470.out⟩
              have n6_ : Aside0 (Below w.heap.size w (((w21.setCell ⟨gb470, 0, none⟩ (.int .i64 t464)).setCell ⟨gb470, 1, none⟩ (.int .i64 t465)).setCell ⟨gb470, 2, none⟩ (.slice Ao25 t466.length co25))) := ⟨by repeat (first | (with_reducible first | exact HB.out | apply bA_ | apply bN_ | apply bD_ | refine bS_ ?_ GE456.out | refine bS_ ?_ GE463.out | refine bS_ ?_ GE470.out) | exact HB.out)⟩
              (try clear HO453)
              (try clear HO461)
              (try clear HO468)
              (try clear BK456)
              (try clear BK463)
              (try clear BK470)
              (try clear HB)
              generalize (((w21.setCell ⟨gb470, 0, none⟩ (.int .i64 t464)).setCell ⟨gb470, 1, none⟩ (.int .i64 t465)).setCell ⟨gb470, 2, none⟩ (.slice Ao25 t466.length co25)) = w31 at n0_ n1_ n2_ n3_ n4_ n5_ n6_ ⊢
              have HO453 := n0_
              have HO461 := n1_
              have HO468 := n2_
              have BK456 := n3_
              have BK463 := n4_
              have BK470 := n5_
              have HB := n6_
              clear n0_ n1_ n2_ n3_ n4_ n5_ n6_
              replace HO453 := As_ (Kd.R_drew HO453.out)
              replace HO461 := As_ (Kd.R_drew HO461.out)
              replace HO468 := As_ (Kd.R_drew HO468.out)
              replace BK456 := As_ (blk_drew BK456.out)
              replace BK463 := As_ (blk_drew BK463.out)
              replace BK470 := As_ (blk_drew BK470.out)
              replace HB := As_ (below_drew1 HB.out)
              refine start_ (n := 23) (S := fun w' => w'.cell? ⟨gb463, 0, none⟩ = some (.int .i64 t457) ∧ w'.cell? ⟨gb463, 1, none⟩ = some (.int .i64 t458) ∧ w'.cell? ⟨gb463, 2, none⟩ = some (.slice Ao18 t459.length co18) ∧ w'.cell? ⟨gb456, 0, none⟩ = some (.int .i64 t449) ∧ w'.cell? ⟨gb456, 1, none⟩ = some (.int .i64 t450) ∧ w'.cell? ⟨gb456, 2, none⟩ = some (.slice Ao13 t451.length co13)) (ds := []) #[false, false, false, false, false, false, false, false, false, false, false, false, false, false, false, false, false, false, false, false, false, false, false] (by kernel_rfl) rfl rfl ⟨(blk_cell BK463.out 0).trans rfl, (blk_cell BK463.out 1).trans rfl, (blk_cell BK463.out 2).trans rfl, (blk_cell BK456.out 0).trans rfl, (blk_cell BK456.out 1).trans rfl, (blk_cell BK456.out 2).trans rfl⟩ (fun hHeld => ?_); refine with_tabW laws_FnSpent.tab10 laws_FnSpent.bits10 (fun HT_ HW_ => ?_)
              generalize w31.drew = w32 at HO453 HO461 HO468 BK456 BK463 BK470 HB hHeld ⊢
              refine take_ (i := 0) (N := some 55) (v := ?_) (a' := ?_) #[true, false, false, false, false, false, false, false, false, false, false, false, false, false, false, false, false, false, false, false, false, false, false] rfl rfl (take_ofW HT_.out HW_.out (by kernel_rfl)) (fun _ _ _ h => h) (Or.inl ⟨by rfl, ?_⟩) hHeld ?_ ?_
              rotate_left
              · rintro w' ⟨s0, s1, s2, s3, s4, s5⟩
                go_simp
                with_reducible rfl
              rotate_left
              · simp only [Act.put, List.setIfInBounds_toArray, List.set_cons_zero, List.set_cons_succ, i64_w, i32_w]
                rfl
              refine one_ (i := 1) (N := some 56) #[true, true, false, false, false, false, false, false, false, false, false, false, false, false, false, false, false, false, false, false, false, false, false] rfl rfl (one_of HT_.out (by kernel_rfl)) (by decide) (fun K hK => ?_)
              refine goes_ Try.func21 (by kernel_rfl) rfl #[.agg #[.int .i64 t457, .int .i64 t458, .slice Ao18 t459.length co18]] (by rfl) rfl rfl (by (try simp only [List.map_toArray, List.map_cons, List.map_nil]); first | done | rfl | (simp only [List.length_drop, List.length_take]; rfl)) ?_
              with_reducible refine (impl_FlowOk.calls k t457 t458 _ _ t459 true _ ?side1 ?side2 A26.out).mono ?_
              (case side1 => repeat (first | exact (Kd.R_reads' HO461.out).2.2 | (with_reducible first | apply cA_ | apply cN_ | apply cD_)))
              (case side2 => exact (Kd.R_reads' HO461.out).2.1)
              rintro e w33 ⟨rfl, hb⟩
              refine ⟨_, rfl, ?_⟩
              replace HO453 := As_ (Kd.R_below (by (with_reducible repeat (first | apply rA_ | apply rN_ | apply rD_)); exact HO453.out) hb)
              replace HO461 := As_ (Kd.R_below (by (with_reducible repeat (first | apply rA_ | apply rN_ | apply rD_)); exact HO461.out) hb)
              replace HO468 := As_ (Kd.R_below (by (with_reducible repeat (first | apply rA_ | apply rN_ | apply rD_)); exact HO468.out) hb)
              replace BK456 := As_ (blk_below (g := gb456) (o := .cells #[.int .i64 t449, .int .i64 t450, .slice Ao13 t451.length co13] 24 (0, 0)) (by (with_reducible repeat (first | apply kN_ | apply kD_ | apply kA_)); exact BK456.out) hb)
              replace BK463 := As_ (blk_below (g := gb463) (o := .cells #[.int .i64 t457, .int .i64 t458, .slice Ao18 t459.length co18] 24 (0, 0)) (by (with_reducible repeat (first | apply kN_ | apply kD_ | apply kA_)); exact BK463.out) hb)
              replace BK470 := As_ (blk_below (g := gb470) (o := .cells #[.int .i64 t464, .int .i64 t465, .slice Ao25 t466.length co25] 24 (0, 0)) (by (with_reducible repeat (first | apply kN_ | apply kD_ | apply kA_)); exact BK470.out) hb)
              replace HB := As_ (below_step (by repeat (first | (with_reducible first | exact HB.out | apply bA_ | apply bN_ | apply bD_ | refine bS_ ?_ GE456.out | refine bS_ ?_ GE463.out | refine bS_ ?_ GE470.out) | exact HB.out)) hb)
              (try clear hb)
              (try clear hb2)
              (try clear hk)
              (try clear hi)
              refine hK.out _ _ ⟨(blk_cell BK463.out 0).trans rfl, (blk_cell BK463.out 1).trans rfl, (blk_cell BK463.out 2).trans rfl, (blk_cell BK456.out 0).trans rfl, (blk_cell BK456.out 1).trans rfl, (blk_cell BK456.out 2).trans rfl⟩ (fun hHeld => ?_)
              clear hK K
              refine norm_ (a' := ?_) ?_ ?_
              rotate_left
              · show Act.put _ (some 56) _ = _
                simp only [Act.put, List.setIfInBounds_toArray, List.set_cons_zero, List.set_cons_succ, i64_w, i32_w]
                rfl
              refine pure_ (i := 2) (N := some 57) (v := ?_) (a' := ?_) #[true, true, true, false, false, false, false, false, false, false, false, false, false, false, false, false, false, false, false, false, false, false, false] rfl rfl (any_of HT_.out (by kernel_rfl)) (fun _ _ _ h => h) (Or.inl ⟨by rfl, ?_⟩) ?_ ?_
              rotate_left
              · intro w'
                go_simp
                with_reducible rfl
              rotate_left
              · simp only [Act.put, List.setIfInBounds_toArray, List.set_cons_zero, List.set_cons_succ, i64_w, i32_w]
                rfl
              refine pure_ (i := 3) (N := some 58) (v := ?_) (a' := ?_) #[true, true, true, true, false, false, false, false, false, false, false, false, false, false, false, false, false, false, false, false, false, false, false] rfl rfl (any_of HT_.out (by kernel_rfl)) (fun _ _ _ h => h) (Or.inl ⟨by rfl, ?_⟩) ?_ ?_
              rotate_left
              · intro w'
                go_simp
                with_reducible rfl
              rotate_left
              · simp only [Act.put, List.setIfInBounds_toArray, List.set_cons_zero, List.set_cons_succ, i64_w, i32_w]
                rfl
              refine pure_ (i := 4) (N := some 59) (v := ?_) (a' := ?_) #[true, true, true, true, true, false, false, false, false, false, false, false, false, false, false, false, false, false, false, false, false, false, false] rfl rfl (any_of HT_.out (by kernel_rfl)) (fun _ _ _ h => h) (Or.inl ⟨by rfl, ?_⟩) ?_ ?_
              rotate_left
              · intro w'
                go_simp
                with_reducible rfl
              rotate_left
              · simp only [Act.put, List.setIfInBounds_toArray, List.set_cons_zero, List.set_cons_succ, i64_w, i32_w]
                rfl
              refine pure_ (i := 6) (N := some 61) (v := ?_) (a' := ?_) #[true, true, true, true, true, false, true, false, false, false, false, false, false, false, false, false, false, false, false, false, false, false, false] rfl rfl (any_of HT_.out (by kernel_rfl)) (fun _ _ _ h => h) (Or.inl ⟨by rfl, ?_⟩) ?_ ?_
              rotate_left
              · intro w'
                go_simp
                with_reducible rfl
              rotate_left
              · simp only [Act.put, List.setIfInBounds_toArray, List.set_cons_zero, List.set_cons_succ, i64_w, i32_w]
                rfl
              refine pure_ (i := 8) (N := some 63) (v := ?_) (a' := ?_) #[true, true, true, true, true, false, true, false, true, false, false, false, false, false, false, false, false, false, false, false, false, false, false] rfl rfl (any_of HT_.out (by kernel_rfl)) (fun _ _ _ h => h) (Or.inl ⟨by rfl, ?_⟩) ?_ ?_
              rotate_left
              · intro w'
                go_simp
                with_reducible rfl
              rotate_left
              · simp only [Act.put, List.setIfInBounds_toArray, List.set_cons_zero, List.set_cons_succ, i64_w, i32_w]
                rfl
              refine take_ (i := 5) (N := some 60) (v := ?_) (a' := ?_) #[true, true, true, true, true, true, true, false, true, false, false, false, false, false, false, false, false, false, false, false, false, false, false] rfl rfl (take_ofW HT_.out HW_.out (by kernel_rfl)) (fun _ _ _ h => h) (Or.inl ⟨by rfl, ?_⟩) hHeld ?_ ?_
              rotate_left
              · rintro w' ⟨s0, s1, s2, s3, s4, s5⟩
                go_simp
                with_reducible rfl
              rotate_left
              · simp only [Act.put, List.setIfInBounds_toArray, List.set_cons_zero, List.set_cons_succ, i64_w, i32_w]
                rfl
              refine take_ (i := 7) (N := some 62) (v := ?_) (a' := ?_) #[true, true, true, true, true, true, true, true, true, false, false, false, false, false, false, false, false, false, false, false, false, false, false] rfl rfl (take_ofW HT_.out HW_.out (by kernel_rfl)) (fun _ _ _ h => h) (Or.inl ⟨by rfl, ?_⟩) hHeld ?_ ?_
              rotate_left
              · rintro w' ⟨s0, s1, s2, s3, s4, s5⟩
                go_simp
                with_reducible rfl
              rotate_left
              · simp only [Act.put, List.setIfInBounds_toArray, List.set_cons_zero, List.set_cons_succ, i64_w, i32_w]
                rfl
              refine pure_ (i := 9) (N := some 64) (v := ?_) (a' := ?_) #[true, true, true, true, true, true, true, true, true, true, false, false, false, false, false, false, false, false, false, false, false, false, false] rfl rfl (any_of HT_.out (by kernel_rfl)) (fun _ _ _ h => h) (Or.inl ⟨by rfl, ?_⟩) ?_ ?_
              rotate_left
              · intro w'
                go_simp
                with_reducible rfl
              rotate_left
              · simp only [Act.put, List.setIfInBounds_toArray, List.set_cons_zero, List.set_cons_succ, i64_w, i32_w]
                rfl
              refine pure_ (i := 10) (N := some 65) (v := ?_) (a' := ?_) #[true, true, true, true, true, true, true, true, true, true, true, false, false, false, false, false, false, false, false, false, false, false, false] rfl rfl (any_of HT_.out (by kernel_rfl)) (fun _ _ _ h => h) (Or.inl ⟨by rfl, ?_⟩) ?_ ?_
              rotate_left
              · intro w'
                go_simp
                with_reducible rfl
              rotate_left
              · simp only [Act.put, List.setIfInBounds_toArray, List.set_cons_zero, List.set_cons_succ, i64_w, i32_w]
                rfl
              refine pure_ (i := 11) (N := some 66) (v := ?_) (a' := ?_) #[true, true, true, true, true, true, true, true, true, true, true, true, false, false, false, false, false, false, false, false, false, false, false] rfl rfl (any_of HT_.out (by kernel_rfl)) (fun _ _ _ h => h) (Or.inl ⟨by rfl, ?_⟩) ?_ ?_
              rotate_left
              · intro w'
                go_simp
                with_reducible rfl
              rotate_left
              · simp only [Act.put, List.setIfInBounds_toArray, List.set_cons_zero, List.set_cons_succ, i64_w, i32_w]
                rfl
              refine pure_ (i := 12) (N := some 67) (v := ?_) (a' := ?_) #[true, true, true, true, true, true, true, true, true, true, true, true, true, false, false, false, false, false, false, false, false, false, false] rfl rfl (any_of HT_.out (by kernel_rfl)) (fun _ _ _ h => h) (Or.inl ⟨by rfl, ?_⟩) ?_ ?_
              rotate_left
              · intro w'
                go_simp
                with_reducible rfl
              rotate_left
              · simp only [Act.put, List.setIfInBounds_toArray, List.set_cons_zero, List.set_cons_succ, i64_w, i32_w]
                rfl
              refine pure_ (i := 14) (N := some 69) (v := ?_) (a' := ?_) #[true, true, true, true, true, true, true, true, true, true, true, true, true, false, true, false, false, false, false, false, false, false, false] rfl rfl (any_of HT_.out (by kernel_rfl)) (fun _ _ _ h => h) (Or.inl ⟨by rfl, ?_⟩) ?_ ?_
              rotate_left
              · intro w'
                go_simp
                with_reducible rfl
              rotate_left
              · simp only [Act.put, List.setIfInBounds_toArray, List.set_cons_zero, List.set_cons_succ, i64_w, i32_w]
                rfl
              refine pure_ (i := 17) (N := some 72) (v := ?_) (a' := ?_) #[true, true, true, true, true, true, true, true, true, true, true, true, true, false, true, false, false, true, false, false, false, false, false] rfl rfl (any_of HT_.out (by kernel_rfl)) (fun _ _ _ h => h) (Or.inl ⟨by rfl, ?_⟩) ?_ ?_
              rotate_left
              · intro w'
                go_simp
                with_reducible rfl
              rotate_left
              · simp only [Act.put, List.setIfInBounds_toArray, List.set_cons_zero, List.set_cons_succ, i64_w, i32_w]
                rfl
              refine pure_ (i := 19) (N := some 74) (v := ?_) (a' := ?_) #[true, true, true, true, true, true, true, true, true, true, true, true, true, false, true, false, false, true, false, true, false, false, false] rfl rfl (any_of HT_.out (by kernel_rfl)) (fun _ _ _ h => h) (Or.inl ⟨by rfl, ?_⟩) ?_ ?_
              rotate_left
              · intro w'
                go_simp
                with_reducible rfl
              rotate_left
              · simp only [Act.put, List.setIfInBounds_toArray, List.set_cons_zero, List.set_cons_succ, i64_w, i32_w]
                rfl
              refine take_ (i := 13) (N := some 68) (v := ?_) (a' := ?_) #[true, true, true, true, true, true, true, true, true, true, true, true, true, true, true, false, false, true, false, true, false, false, false] rfl rfl (take_ofW HT_.out HW_.out (by kernel_rfl)) (fun _ _ _ h => h) (Or.inl ⟨by rfl, ?_⟩) hHeld ?_ ?_
              rotate_left
              · rintro w' ⟨s0, s1, s2, s3, s4, s5⟩
                go_simp
                with_reducible rfl
              rotate_left
              · simp only [Act.put, List.setIfInBounds_toArray, List.set_cons_zero, List.set_cons_succ, i64_w, i32_w]
                rfl
              refine take_ (i := 16) (N := some 71) (v := ?_) (a' := ?_) #[true, true, true, true, true, true, true, true, true, true, true, true, true, true, true, false, true, true, false, true, false, false, false] rfl rfl (take_ofW HT_.out HW_.out (by kernel_rfl)) (fun _ _ _ h => h) (Or.inl ⟨by rfl, ?_⟩) hHeld ?_ ?_
              rotate_left
              · rintro w' ⟨s0, s1, s2, s3, s4, s5⟩
                go_simp
                with_reducible rfl
              rotate_left
              · simp only [Act.put, List.setIfInBounds_toArray, List.set_cons_zero, List.set_cons_succ, i64_w, i32_w]
                rfl
              refine one_ (i := 15) (N := some 70) #[true, true, true, true, true, true, true, true, true, true, true, true, true, true, true, true, true, true, false, true, false, false, false] rfl rfl (one_of HT_.out (by kernel_rfl)) (by decide) (fun K hK => ?_)
              refine goes_ Try.func23 (by kernel_rfl) rfl #[.agg #[.int .i64 t457, .int .i64 t458, .slice Ao18 t459.length co18], .int .i64 t454] (by rfl) rfl rfl (by (try simp only [List.map_toArray, List.map_cons, List.map_nil]); first | done | rfl | (simp only [List.length_drop, List.length_take]; rfl)) ?_
              with_reducible refine (impl_RoomOf.calls k t457 t458 _ _ t459 t454 t474 _ ?side1 ?side2 A29.out).mono ?_
              (case side1 => repeat (first | exact (Kd.R_reads' HO461.out).2.2 | (with_reducible first | apply cA_ | apply cN_ | apply cD_)))
              (case side2 => exact (Kd.R_reads' HO461.out).2.1)
              rintro e w34 ⟨rfl, hb⟩
              refine ⟨_, rfl, ?_⟩
              replace HO453 := As_ (Kd.R_below (by (with_reducible repeat (first | apply rA_ | apply rN_ | apply rD_)); exact HO453.out) hb)
              replace HO461 := As_ (Kd.R_below (by (with_reducible repeat (first | apply rA_ | apply rN_ | apply rD_)); exact HO461.out) hb)
              replace HO468 := As_ (Kd.R_below (by (with_reducible repeat (first | apply rA_ | apply rN_ | apply rD_)); exact HO468.out) hb)
              replace BK456 := As_ (blk_below (g := gb456) (o := .cells #[.int .i64 t449, .int .i64 t450, .slice Ao13 t451.length co13] 24 (0, 0)) (by (with_reducible repeat (first | apply kN_ | apply kD_ | apply kA_)); exact BK456.out) hb)
              replace BK463 := As_ (blk_below (g := gb463) (o := .cells #[.int .i64 t457, .int .i64 t458, .slice Ao18 t459.length co18] 24 (0, 0)) (by (with_reducible repeat (first | apply kN_ | apply kD_ | apply kA_)); exact BK463.out) hb)
              replace BK470 := As_ (blk_below (g := gb470) (o := .cells #[.int .i64 t464, .int .i64 t465, .slice Ao25 t466.length co25] 24 (0, 0)) (by (with_reducible repeat (first | apply kN_ | apply kD_ | apply kA_)); exact BK470.out) hb)
              replace HB := As_ (below_step (by repeat (first | (with_reducible first | exact HB.out | apply bA_ | apply bN_ | apply bD_ | refine bS_ ?_ GE456.out | refine bS_ ?_ GE463.out | refine bS_ ?_ GE470.out) | exact HB.out)) hb)
              (try clear hb)
              (try clear hb2)
              (try clear hk)
              (try clear hi)
              refine hK.out _ _ ⟨(blk_cell BK463.out 0).trans rfl, (blk_cell BK463.out 1).trans rfl, (blk_cell BK463.out 2).trans rfl, (blk_cell BK456.out 0).trans rfl, (blk_cell BK456.out 1).trans rfl, (blk_cell BK456.out 2).trans rfl⟩ (fun hHeld => ?_)
              clear hK K
              refine norm_ (a' := ?_) ?_ ?_
              rotate_left
              · show Act.put _ (some 70) _ = _
                simp only [Act.put, List.setIfInBounds_toArray, List.set_cons_zero, List.set_cons_succ, i64_w, i32_w]
                rfl
              refine one_ (i := 18) (N := some 73) #[true, true, true, true, true, true, true, true, true, true, true, true, true, true, true, true, true, true, true, true, false, false, false] rfl rfl (one_of HT_.out (by kernel_rfl)) (by decide) (fun K hK => ?_)
              refine goes_ Try.func23 (by kernel_rfl) rfl #[.agg #[.int .i64 t449, .int .i64 t450, .slice Ao13 t451.length co13], .int .i64 t454] (by rfl) rfl rfl (by (try simp only [List.map_toArray, List.map_cons, List.map_nil]); first | done | rfl | (simp only [List.length_drop, List.length_take]; rfl)) ?_
              with_reducible refine (impl_RoomOf.calls k t449 t450 _ _ t451 t454 t475 _ ?side1 ?side2 A30.out).mono ?_
              (case side1 => repeat (first | exact (Kd.R_reads' HO453.out).2.2 | (with_reducible first | apply cA_ | apply cN_ | apply cD_)))
              (case side2 => exact (Kd.R_reads' HO453.out).2.1)
              rintro e w35 ⟨rfl, hb⟩
              refine ⟨_, rfl, ?_⟩
              replace HO453 := As_ (Kd.R_below (by (with_reducible repeat (first | apply rA_ | apply rN_ | apply rD_)); exact HO453.out) hb)
              replace HO461 := As_ (Kd.R_below (by (with_reducible repeat (first | apply rA_ | apply rN_ | apply rD_)); exact HO461.out) hb)
              replace HO468 := As_ (Kd.R_below (by (with_reducible repeat (first | apply rA_ | apply rN_ | apply rD_)); exact HO468.out) hb)
              replace BK456 := As_ (blk_below (g := gb456) (o := .cells #[.int .i64 t449, .int .i64 t450, .slice Ao13 t451.length co13] 24 (0, 0)) (by (with_reducible repeat (first | apply kN_ | apply kD_ | apply kA_)); exact BK456.out) hb)
              replace BK463 := As_ (blk_below (g := gb463) (o := .cells #[.int .i64 t457, .int .i64 t458, .slice Ao18 t459.length co18] 24 (0, 0)) (by (with_reducible repeat (first | apply kN_ | apply kD_ | apply kA_)); exact BK463.out) hb)
              replace BK470 := As_ (blk_below (g := gb470) (o := .cells #[.int .i64 t464, .int .i64 t465, .slice Ao25 t466.length co25] 24 (0, 0)) (by (with_reducible repeat (first | apply kN_ | apply kD_ | apply kA_)); exact BK470.out) hb)
              replace HB := As_ (below_step (by repeat (first | (with_reducible first | exact HB.out | apply bA_ | apply bN_ | apply bD_ | refine bS_ ?_ GE456.out | refine bS_ ?_ GE463.out | refine bS_ ?_ GE470.out) | exact HB.out)) hb)
              (try clear hb)
              (try clear hb2)
              (try clear hk)
              (try clear hi)
              refine hK.out _ _ ⟨(blk_cell BK463.out 0).trans rfl, (blk_cell BK463.out 1).trans rfl, (blk_cell BK463.out 2).trans rfl, (blk_cell BK456.out 0).trans rfl, (blk_cell BK456.out 1).trans rfl, (blk_cell BK456.out 2).trans rfl⟩ (fun hHeld => ?_)
              clear hK K
              refine norm_ (a' := ?_) ?_ ?_
              rotate_left
              · show Act.put _ (some 73) _ = _
                simp only [Act.put, List.setIfInBounds_toArray, List.set_cons_zero, List.set_cons_succ, i64_w, i32_w]
                rfl
              refine pure_ (i := 20) (N := some 75) (v := ?_) (a' := ?_) #[true, true, true, true, true, true, true, true, true, true, true, true, true, true, true, true, true, true, true, true, true, false, false] rfl rfl (any_of HT_.out (by kernel_rfl)) (fun _ _ _ h => h) (Or.inl ⟨by rfl, ?_⟩) ?_ ?_
              rotate_left
              · intro w'
                go_simp
                with_reducible rfl
              rotate_left
              · simp only [Act.put, List.setIfInBounds_toArray, List.set_cons_zero, List.set_cons_succ, i64_w, i32_w]
                rfl
              refine pure_ (i := 21) (N := some 76) (v := ?_) (a' := ?_) #[true, true, true, true, true, true, true, true, true, true, true, true, true, true, true, true, true, true, true, true, true, true, false] rfl rfl (any_of HT_.out (by kernel_rfl)) (fun _ _ _ h => h) (Or.inl ⟨by rfl, ?_⟩) ?_ ?_
              rotate_left
              · intro w'
                go_simp
                with_reducible rfl
              rotate_left
              · simp only [Act.put, List.setIfInBounds_toArray, List.set_cons_zero, List.set_cons_succ, i64_w, i32_w]
                rfl
              refine pure_ (i := 22) (N := some 77) (v := ?_) (a' := ?_) #[true, true, true, true, true, true, true, true, true, true, true, true, true, true, true, true, true, true, true, true, true, true, true] rfl rfl (any_of HT_.out (by kernel_rfl)) (fun _ _ _ h => h) (Or.inl ⟨by rfl, ?_⟩) ?_ ?_
              rotate_left
              · intro w'
                go_simp
                with_reducible rfl
              rotate_left
              · simp only [Act.put, List.setIfInBounds_toArray, List.set_cons_zero, List.set_cons_succ, i64_w, i32_w]
                rfl
              refine done_ (done_of HT_.out (by kernel_rfl)) ?_
              try go_wp2
              go_meet
              case rel => exact ⟨_, ((t474 != (wrap64 (t475 - t455)))), (by first | rfl | (simp; done) | (simp [*]; done)), H', ⟨by first | omega | exact Nat.le_refl _⟩, ⟨by (with_reducible repeat (first | apply rA_ | apply rN_ | apply rD_)); exact HO453.out⟩, ⟨by (with_reducible repeat (first | apply rA_ | apply rN_ | apply rD_)); exact HO461.out⟩, ⟨by (with_reducible repeat (first | apply rA_ | apply rN_ | apply rD_)); exact HO468.out⟩, ⟨by (with_reducible repeat (first | apply kN_ | apply kD_ | apply kA_)); exact BK456.out⟩, ⟨by (with_reducible repeat (first | apply kN_ | apply kD_ | apply kA_)); exact BK463.out⟩, ⟨by (with_reducible repeat (first | apply kN_ | apply kD_ | apply kA_)); exact BK470.out⟩, ⟨by repeat (first | (with_reducible first | exact HB.out | apply bA_ | apply bN_ | apply bD_ | refine bS_ ?_ GE456.out | refine bS_ ?_ GE463.out | refine bS_ ?_ GE470.out) | exact HB.out)⟩⟩
            · rw [if_neg c28] at H
              have c28b0 : (t457 == (wrap64 (t449 - t455))) = false := beq_eq_false_iff_ne.mpr c28
              have c28b1 : (t457 != (wrap64 (t449 - t455))) = true := bne_iff_ne.mpr c28
              (first | rw [c28b0] | (simp only [i64_w, i32_w]; rw [c28b0]) | skip)
              have H' := Aside0.mk H
              clear H
              try go_wp2
              have n0_ : Aside0 (Kd.R k48 48 (((w21.setCell ⟨gb470, 0, none⟩ (.int .i64 t464)).setCell ⟨gb470, 1, none⟩ (.int .i64 t465)).setCell ⟨gb470, 2, none⟩ (.slice Ao25 t466.length co25)) w.heap.size (fun k_ => some k_ ≠ (.slice Ao18 t459.length co18 : Value).ownBlock ∧ some k_ ≠ (.slice Ao25 t466.length co25 : Value).ownBlock) (.slice Ao13 t451.length co13) t451) := ⟨by (with_reducible repeat (first | apply rA_ | apply rN_ | apply rD_)); exact Kd.R_mono (Kd.R_far (p := ⟨gb470, 2, none⟩) (Kd.R_far (p := ⟨gb470, 1, none⟩) (Kd.R_far (p := ⟨gb470, 0, none⟩) (Kd.R_types HO453.out BK470.out (by decide)) (fun _ hk => hk.2) (.int .i64 t464)) (fun _ hk => hk.2) (.int .i64 t465)) (fun _ hk => hk.2) (.slice Ao25 t466.length co25)) (fun _ hk => ⟨hk.1.1.2, hk.1.2⟩)⟩
              have n1_ : Aside0 (Kd.R k48 48 (((w21.setCell ⟨gb470, 0, none⟩ (.int .i64 t464)).setCell ⟨gb470, 1, none⟩ (.int .i64 t465)).setCell ⟨gb470, 2, none⟩ (.slice Ao25 t466.length co25)) w.heap.size (fun k_ => some k_ ≠ (.slice Ao13 t451.length co13 : Value).ownBlock ∧ some k_ ≠ (.slice Ao25 t466.length co25 : Value).ownBlock) (.slice Ao18 t459.length co18) t459) := ⟨by (with_reducible repeat (first | apply rA_ | apply rN_ | apply rD_)); exact Kd.R_mono (Kd.R_far (p := ⟨gb470, 2, none⟩) (Kd.R_far (p := ⟨gb470, 1, none⟩) (Kd.R_far (p := ⟨gb470, 0, none⟩) (Kd.R_types HO461.out BK470.out (by decide)) (fun _ hk => hk.2) (.int .i64 t464)) (fun _ hk => hk.2) (.int .i64 t465)) (fun _ hk => hk.2) (.slice Ao25 t466.length co25)) (fun _ hk => ⟨hk.1.1.2, hk.1.2⟩)⟩
              have n2_ : Aside0 (Kd.R k48 48 (((w21.setCell ⟨gb470, 0, none⟩ (.int .i64 t464)).setCell ⟨gb470, 1, none⟩ (.int .i64 t465)).setCell ⟨gb470, 2, none⟩ (.slice Ao25 t466.length co25)) w.heap.size (fun k_ => some k_ ≠ (.slice Ao13 t451.length co13 : Value).ownBlock ∧ some k_ ≠ (.slice Ao18 t459.length co18 : Value).ownBlock) (.slice Ao25 t466.length co25) t466) := ⟨by (with_reducible repeat (first | apply rA_ | apply rN_ | apply rD_)); exact Kd.R_mono (Kd.R_far (p := ⟨gb470, 2, none⟩) (Kd.R_far (p := ⟨gb470, 1, none⟩) (Kd.R_far (p := ⟨gb470, 0, none⟩) (Kd.R_types HO468.out BK470.out (by decide)) (fun _ hk => hk.2) (.int .i64 t464)) (fun _ hk => hk.2) (.int .i64 t465)) (fun _ hk => hk.2) (.slice Ao25 t466.length co25)) (fun _ hk => ⟨hk.1.1.2, hk.1.2⟩)⟩
              have n3_ : Aside0 ((((w21.setCell ⟨gb470, 0, none⟩ (.int .i64 t464)).setCell ⟨gb470, 1, none⟩ (.int .i64 t465)).setCell ⟨gb470, 2, none⟩ (.slice Ao25 t466.length co25)).heap[gb456]? = some (.cells #[.int .i64 t449, .int .i64 t450, .slice Ao13 t451.length co13] 24 (0, 0))) := ⟨by (with_reducible repeat (first | apply kN_ | apply kD_ | apply kA_)); refine blk_far ?_ NB456_470.out _; (with_reducible repeat (first | apply kN_ | apply kD_ | apply kA_)); refine blk_far ?_ NB456_470.out _; (with_reducible repeat (first | apply kN_ | apply kD_ | apply kA_)); refine blk_far ?_ NB456_470.out _; (with_reducible repeat (first | apply kN_ | apply kD_ | apply kA_)); exact BK456.out⟩
              have n4_ : Aside0 ((((w21.setCell ⟨gb470, 0, none⟩ (.int .i64 t464)).setCell ⟨gb470, 1, none⟩ (.int .i64 t465)).setCell ⟨gb470, 2, none⟩ (.slice Ao25 t466.length co25)).heap[gb463]? = some (.cells #[.int .i64 t457, .int .i64 t458, .slice Ao18 t459.length co18] 24 (0, 0))) := ⟨by (with_reducible repeat (first | apply kN_ | apply kD_ | apply kA_)); refine blk_far ?_ NB463_470.out _; (with_reducible repeat (first | apply kN_ | apply kD_ | apply kA_)); refine blk_far ?_ NB463_470.out _; (with_reducible repeat (first | apply kN_ | apply kD_ | apply kA_)); refine blk_far ?_ NB463_470.out _; (with_reducible repeat (first | apply kN_ | apply kD_ | apply kA_)); exact BK463.out⟩
              have n5_ : Aside0 ((((w21.setCell ⟨gb470, 0, none⟩ (.int .i64 t464)).setCell ⟨gb470, 1, none⟩ (.int .i64 t465)).setCell ⟨gb470, 2, none⟩ (.slice Ao25 t466.length co25)).heap[gb470]? = some (.cells #[.int .i64 t464, .int .i64 t465, .slice Ao25 t466.length co25] 24 (0, 0))) := ⟨by (with_reducible repeat (first | apply kN_ | apply kD_ | apply kA_)); refine blk_put (cs := #[.int .i64 t464, .int .i64 t465, .slice none 0 0]) ?_ 2 _ rfl; (with_reducible repeat (first | apply kN_ | apply kD_ | apply kA_)); refine blk_put (cs := #[.int .i64 t464, .int .i64 0, .slice none 0 0]) ?_ 1 _ rfl; (with_reducible repeat (first | apply kN_ | apply kD_ | apply kA_)); refine blk_put (cs := #[.int .i64 0, .int .i64 0, .slice none 0 0]) ?_ 0 _ rfl; (with_reducible repeat (first | apply kN_ | apply kD_ | apply kA_)); exact BK470.out⟩
              have n6_ : Aside0 (Below w.heap.size w (((w21.setCell ⟨gb470, 0, none⟩ (.int .i64 t464)).setCell ⟨gb470, 1, none⟩ (.int .i64 t465)).setCell ⟨gb470, 2, none⟩ (.slice Ao25 t466.length co25))) := ⟨by repeat (first | (with_reducible first | exact HB.out | apply bA_ | apply bN_ | apply bD_ | refine bS_ ?_ GE456.out | refine bS_ ?_ GE463.out | refine bS_ ?_ GE470.out) | exact HB.out)⟩
              (try clear HO453)
              (try clear HO461)
              (try clear HO468)
              (try clear BK456)
              (try clear BK463)
              (try clear BK470)
              (try clear HB)
              generalize (((w21.setCell ⟨gb470, 0, none⟩ (.int .i64 t464)).setCell ⟨gb470, 1, none⟩ (.int .i64 t465)).setCell ⟨gb470, 2, none⟩ (.slice Ao25 t466.length co25)) = w36 at n0_ n1_ n2_ n3_ n4_ n5_ n6_ ⊢
              have HO453 := n0_
              have HO461 := n1_
              have HO468 := n2_
              have BK456 := n3_
              have BK463 := n4_
              have BK470 := n5_
              have HB := n6_
              clear n0_ n1_ n2_ n3_ n4_ n5_ n6_
              replace HO453 := As_ (Kd.R_drew HO453.out)
              replace HO461 := As_ (Kd.R_drew HO461.out)
              replace HO468 := As_ (Kd.R_drew HO468.out)
              replace BK456 := As_ (blk_drew BK456.out)
              replace BK463 := As_ (blk_drew BK463.out)
              replace BK470 := As_ (blk_drew BK470.out)
              replace HB := As_ (below_drew1 HB.out)
              refine start_ (n := 23) (S := fun w' => w'.cell? ⟨gb463, 0, none⟩ = some (.int .i64 t457) ∧ w'.cell? ⟨gb463, 1, none⟩ = some (.int .i64 t458) ∧ w'.cell? ⟨gb463, 2, none⟩ = some (.slice Ao18 t459.length co18) ∧ w'.cell? ⟨gb456, 0, none⟩ = some (.int .i64 t449) ∧ w'.cell? ⟨gb456, 1, none⟩ = some (.int .i64 t450) ∧ w'.cell? ⟨gb456, 2, none⟩ = some (.slice Ao13 t451.length co13)) (ds := []) #[false, false, false, false, false, false, false, false, false, false, false, false, false, false, false, false, false, false, false, false, false, false, false] (by kernel_rfl) rfl rfl ⟨(blk_cell BK463.out 0).trans rfl, (blk_cell BK463.out 1).trans rfl, (blk_cell BK463.out 2).trans rfl, (blk_cell BK456.out 0).trans rfl, (blk_cell BK456.out 1).trans rfl, (blk_cell BK456.out 2).trans rfl⟩ (fun hHeld => ?_); refine with_tabW laws_FnSpent.tab10 laws_FnSpent.bits10 (fun HT_ HW_ => ?_)
              generalize w36.drew = w37 at HO453 HO461 HO468 BK456 BK463 BK470 HB hHeld ⊢
              refine take_ (i := 0) (N := some 55) (v := ?_) (a' := ?_) #[true, false, false, false, false, false, false, false, false, false, false, false, false, false, false, false, false, false, false, false, false, false, false] rfl rfl (take_ofW HT_.out HW_.out (by kernel_rfl)) (fun _ _ _ h => h) (Or.inl ⟨by rfl, ?_⟩) hHeld ?_ ?_
              rotate_left
              · rintro w' ⟨s0, s1, s2, s3, s4, s5⟩
                go_simp
                with_reducible rfl
              rotate_left
              · simp only [Act.put, List.setIfInBounds_toArray, List.set_cons_zero, List.set_cons_succ, i64_w, i32_w]
                rfl
              refine one_ (i := 1) (N := some 56) #[true, true, false, false, false, false, false, false, false, false, false, false, false, false, false, false, false, false, false, false, false, false, false] rfl rfl (one_of HT_.out (by kernel_rfl)) (by decide) (fun K hK => ?_)
              refine goes_ Try.func21 (by kernel_rfl) rfl #[.agg #[.int .i64 t457, .int .i64 t458, .slice Ao18 t459.length co18]] (by rfl) rfl rfl (by (try simp only [List.map_toArray, List.map_cons, List.map_nil]); first | done | rfl | (simp only [List.length_drop, List.length_take]; rfl)) ?_
              with_reducible refine (impl_FlowOk.calls k t457 t458 _ _ t459 true _ ?side1 ?side2 A26.out).mono ?_
              (case side1 => repeat (first | exact (Kd.R_reads' HO461.out).2.2 | (with_reducible first | apply cA_ | apply cN_ | apply cD_)))
              (case side2 => exact (Kd.R_reads' HO461.out).2.1)
              rintro e w38 ⟨rfl, hb⟩
              refine ⟨_, rfl, ?_⟩
              replace HO453 := As_ (Kd.R_below (by (with_reducible repeat (first | apply rA_ | apply rN_ | apply rD_)); exact HO453.out) hb)
              replace HO461 := As_ (Kd.R_below (by (with_reducible repeat (first | apply rA_ | apply rN_ | apply rD_)); exact HO461.out) hb)
              replace HO468 := As_ (Kd.R_below (by (with_reducible repeat (first | apply rA_ | apply rN_ | apply rD_)); exact HO468.out) hb)
              replace BK456 := As_ (blk_below (g := gb456) (o := .cells #[.int .i64 t449, .int .i64 t450, .slice Ao13 t451.length co13] 24 (0, 0)) (by (with_reducible repeat (first | apply kN_ | apply kD_ | apply kA_)); exact BK456.out) hb)
              replace BK463 := As_ (blk_below (g := gb463) (o := .cells #[.int .i64 t457, .int .i64 t458, .slice Ao18 t459.length co18] 24 (0, 0)) (by (with_reducible repeat (first | apply kN_ | apply kD_ | apply kA_)); exact BK463.out) hb)
              replace BK470 := As_ (blk_below (g := gb470) (o := .cells #[.int .i64 t464, .int .i64 t465, .slice Ao25 t466.length co25] 24 (0, 0)) (by (with_reducible repeat (first | apply kN_ | apply kD_ | apply kA_)); exact BK470.out) hb)
              replace HB := As_ (below_step (by repeat (first | (with_reducible first | exact HB.out | apply bA_ | apply bN_ | apply bD_ | refine bS_ ?_ GE456.out | refine bS_ ?_ GE463.out | refine bS_ ?_ GE470.out) | exact HB.out)) hb)
              (try clear hb)
              (try clear hb2)
              (try clear hk)
              (try clear hi)
              refine hK.out _ _ ⟨(blk_cell BK463.out 0).trans rfl, (blk_cell BK463.out 1).trans rfl, (blk_cell BK463.out 2).trans rfl, (blk_cell BK456.out 0).trans rfl, (blk_cell BK456.out 1).trans rfl, (blk_cell BK456.out 2).trans rfl⟩ (fun hHeld => ?_)
              clear hK K
              refine norm_ (a' := ?_) ?_ ?_
              rotate_left
              · show Act.put _ (some 56) _ = _
                simp only [Act.put, List.setIfInBounds_toArray, List.set_cons_zero, List.set_cons_succ, i64_w, i32_w]
                rfl
              refine pure_ (i := 2) (N := some 57) (v := ?_) (a' := ?_) #[true, true, true, false, false, false, false, false, false, false, false, false, false, false, false, false, false, false, false, false, false, false, false] rfl rfl (any_of HT_.out (by kernel_rfl)) (fun _ _ _ h => h) (Or.inl ⟨by rfl, ?_⟩) ?_ ?_
              rotate_left
              · intro w'
                go_simp
                with_reducible rfl
              rotate_left
              · simp only [Act.put, List.setIfInBounds_toArray, List.set_cons_zero, List.set_cons_succ, i64_w, i32_w]
                rfl
              refine pure_ (i := 3) (N := some 58) (v := ?_) (a' := ?_) #[true, true, true, true, false, false, false, false, false, false, false, false, false, false, false, false, false, false, false, false, false, false, false] rfl rfl (any_of HT_.out (by kernel_rfl)) (fun _ _ _ h => h) (Or.inl ⟨by rfl, ?_⟩) ?_ ?_
              rotate_left
              · intro w'
                go_simp
                with_reducible rfl
              rotate_left
              · simp only [Act.put, List.setIfInBounds_toArray, List.set_cons_zero, List.set_cons_succ, i64_w, i32_w]
                rfl
              refine pure_ (i := 4) (N := some 59) (v := ?_) (a' := ?_) #[true, true, true, true, true, false, false, false, false, false, false, false, false, false, false, false, false, false, false, false, false, false, false] rfl rfl (any_of HT_.out (by kernel_rfl)) (fun _ _ _ h => h) (Or.inl ⟨by rfl, ?_⟩) ?_ ?_
              rotate_left
              · intro w'
                go_simp
                with_reducible rfl
              rotate_left
              · simp only [Act.put, List.setIfInBounds_toArray, List.set_cons_zero, List.set_cons_succ, i64_w, i32_w]
                rfl
              refine pure_ (i := 6) (N := some 61) (v := ?_) (a' := ?_) #[true, true, true, true, true, false, true, false, false, false, false, false, false, false, false, false, false, false, false, false, false, false, false] rfl rfl (any_of HT_.out (by kernel_rfl)) (fun _ _ _ h => h) (Or.inl ⟨by rfl, ?_⟩) ?_ ?_
              rotate_left
              · intro w'
                go_simp
                with_reducible rfl
              rotate_left
              · simp only [Act.put, List.setIfInBounds_toArray, List.set_cons_zero, List.set_cons_succ, i64_w, i32_w]
                rfl
              refine pure_ (i := 8) (N := some 63) (v := ?_) (a' := ?_) #[true, true, true, true, true, false, true, false, true, false, false, false, false, false, false, false, false, false, false, false, false, false, false] rfl rfl (any_of HT_.out (by kernel_rfl)) (fun _ _ _ h => h) (Or.inl ⟨by rfl, ?_⟩) ?_ ?_
              rotate_left
              · intro w'
                go_simp
                with_reducible rfl
              rotate_left
              · simp only [Act.put, List.setIfInBounds_toArray, List.set_cons_zero, List.set_cons_succ, i64_w, i32_w]
                rfl
              refine take_ (i := 5) (N := some 60) (v := ?_) (a' := ?_) #[true, true, true, true, true, true, true, false, true, false, false, false, false, false, false, false, false, false, false, false, false, false, false] rfl rfl (take_ofW HT_.out HW_.out (by kernel_rfl)) (fun _ _ _ h => h) (Or.inl ⟨by rfl, ?_⟩) hHeld ?_ ?_
              rotate_left
              · rintro w' ⟨s0, s1, s2, s3, s4, s5⟩
                go_simp
                with_reducible rfl
              rotate_left
              · simp only [Act.put, List.setIfInBounds_toArray, List.set_cons_zero, List.set_cons_succ, i64_w, i32_w]
                rfl
              refine take_ (i := 7) (N := some 62) (v := ?_) (a' := ?_) #[true, true, true, true, true, true, true, true, true, false, false, false, false, false, false, false, false, false, false, false, false, false, false] rfl rfl (take_ofW HT_.out HW_.out (by kernel_rfl)) (fun _ _ _ h => h) (Or.inl ⟨by rfl, ?_⟩) hHeld ?_ ?_
              rotate_left
              · rintro w' ⟨s0, s1, s2, s3, s4, s5⟩
                go_simp
                with_reducible rfl
              rotate_left
              · simp only [Act.put, List.setIfInBounds_toArray, List.set_cons_zero, List.set_cons_succ, i64_w, i32_w]
                rfl
              refine pure_ (i := 9) (N := some 64) (v := ?_) (a' := ?_) #[true, true, true, true, true, true, true, true, true, true, false, false, false, false, false, false, false, false, false, false, false, false, false] rfl rfl (any_of HT_.out (by kernel_rfl)) (fun _ _ _ h => h) (Or.inl ⟨by rfl, ?_⟩) ?_ ?_
              rotate_left
              · intro w'
                go_simp
                with_reducible rfl
              rotate_left
              · simp only [Act.put, List.setIfInBounds_toArray, List.set_cons_zero, List.set_cons_succ, i64_w, i32_w]
                rfl
              refine pure_ (i := 10) (N := some 65) (v := ?_) (a' := ?_) #[true, true, true, true, true, true, true, true, true, true, true, false, false, false, false, false, false, false, false, false, false, false, false] rfl rfl (any_of HT_.out (by kernel_rfl)) (fun _ _ _ h => h) (Or.inl ⟨by rfl, ?_⟩) ?_ ?_
              rotate_left
              · intro w'
                go_simp
                with_reducible rfl
              rotate_left
              · simp only [Act.put, List.setIfInBounds_toArray, List.set_cons_zero, List.set_cons_succ, i64_w, i32_w]
                rfl
              refine pure_ (i := 11) (N := some 66) (v := ?_) (a' := ?_) #[true, true, true, true, true, true, true, true, true, true, true, true, false, false, false, false, false, false, false, false, false, false, false] rfl rfl (any_of HT_.out (by kernel_rfl)) (fun _ _ _ h => h) (Or.inl ⟨by rfl, ?_⟩) ?_ ?_
              rotate_left
              · intro w'
                go_simp
                with_reducible rfl
              rotate_left
              · simp only [Act.put, List.setIfInBounds_toArray, List.set_cons_zero, List.set_cons_succ, i64_w, i32_w]
                rfl
              refine pure_ (i := 12) (N := some 67) (v := ?_) (a' := ?_) #[true, true, true, true, true, true, true, true, true, true, true, true, true, false, false, false, false, false, false, false, false, false, false] rfl rfl (any_of HT_.out (by kernel_rfl)) (fun _ _ _ h => h) (Or.inl ⟨by rfl, ?_⟩) ?_ ?_
              rotate_left
              · intro w'
                go_simp
                with_reducible rfl
              rotate_left
              · simp only [Act.put, List.setIfInBounds_toArray, List.set_cons_zero, List.set_cons_succ, i64_w, i32_w]
                rfl
              refine pure_ (i := 13) (N := some 68) (v := undef) (a' := ?_) #[true, true, true, true, true, true, true, true, true, true, true, true, true, true, false, false, false, false, false, false, false, false, false] rfl rfl (any_of HT_.out (by kernel_rfl)) (fun _ _ _ h => h) (Or.inr ⟨by rfl, rfl⟩) ?_ ?_
              rotate_left
              · simp only [Act.put, List.setIfInBounds_toArray, List.set_cons_zero, List.set_cons_succ, i64_w, i32_w]
                rfl
              refine pure_ (i := 14) (N := some 69) (v := undef) (a' := ?_) #[true, true, true, true, true, true, true, true, true, true, true, true, true, true, true, false, false, false, false, false, false, false, false] rfl rfl (any_of HT_.out (by kernel_rfl)) (fun _ _ _ h => h) (Or.inr ⟨by rfl, rfl⟩) ?_ ?_
              rotate_left
              · simp only [Act.put, List.setIfInBounds_toArray, List.set_cons_zero, List.set_cons_succ, i64_w, i32_w]
                rfl
              refine pure_ (i := 15) (N := some 70) (v := undef) (a' := ?_) #[true, true, true, true, true, true, true, true, true, true, true, true, true, true, true, true, false, false, false, false, false, false, false] rfl rfl (any_of HT_.out (by kernel_rfl)) (fun _ _ _ h => h) (Or.inr ⟨by rfl, rfl⟩) ?_ ?_
              rotate_left
              · simp only [Act.put, List.setIfInBounds_toArray, List.set_cons_zero, List.set_cons_succ, i64_w, i32_w]
                rfl
              refine pure_ (i := 16) (N := some 71) (v := undef) (a' := ?_) #[true, true, true, true, true, true, true, true, true, true, true, true, true, true, true, true, true, false, false, false, false, false, false] rfl rfl (any_of HT_.out (by kernel_rfl)) (fun _ _ _ h => h) (Or.inr ⟨by rfl, rfl⟩) ?_ ?_
              rotate_left
              · simp only [Act.put, List.setIfInBounds_toArray, List.set_cons_zero, List.set_cons_succ, i64_w, i32_w]
                rfl
              refine pure_ (i := 17) (N := some 72) (v := undef) (a' := ?_) #[true, true, true, true, true, true, true, true, true, true, true, true, true, true, true, true, true, true, false, false, false, false, false] rfl rfl (any_of HT_.out (by kernel_rfl)) (fun _ _ _ h => h) (Or.inr ⟨by rfl, rfl⟩) ?_ ?_
              rotate_left
              · simp only [Act.put, List.setIfInBounds_toArray, List.set_cons_zero, List.set_cons_succ, i64_w, i32_w]
                rfl
              refine pure_ (i := 18) (N := some 73) (v := undef) (a' := ?_) #[true, true, true, true, true, true, true, true, true, true, true, true, true, true, true, true, true, true, true, false, false, false, false] rfl rfl (any_of HT_.out (by kernel_rfl)) (fun _ _ _ h => h) (Or.inr ⟨by rfl, rfl⟩) ?_ ?_
              rotate_left
              · simp only [Act.put, List.setIfInBounds_toArray, List.set_cons_zero, List.set_cons_succ, i64_w, i32_w]
                rfl
              refine pure_ (i := 19) (N := some 74) (v := undef) (a' := ?_) #[true, true, true, true, true, true, true, true, true, true, true, true, true, true, true, true, true, true, true, true, false, false, false] rfl rfl (any_of HT_.out (by kernel_rfl)) (fun _ _ _ h => h) (Or.inr ⟨by rfl, rfl⟩) ?_ ?_
              rotate_left
              · simp only [Act.put, List.setIfInBounds_toArray, List.set_cons_zero, List.set_cons_succ, i64_w, i32_w]
                rfl
              refine pure_ (i := 20) (N := some 75) (v := undef) (a' := ?_) #[true, true, true, true, true, true, true, true, true, true, true, true, true, true, true, true, true, true, true, true, true, false, false] rfl rfl (any_of HT_.out (by kernel_rfl)) (fun _ _ _ h => h) (Or.inr ⟨by rfl, rfl⟩) ?_ ?_
              rotate_left
              · simp only [Act.put, List.setIfInBounds_toArray, List.set_cons_zero, List.set_cons_succ, i64_w, i32_w]
                rfl
              refine pure_ (i := 21) (N := some 76) (v := undef) (a' := ?_) #[true, true, true, true, true, true, true, true, true, true, true, true, true, true, true, true, true, true, true, true, true, true, false] rfl rfl (any_of HT_.out (by kernel_rfl)) (fun _ _ _ h => h) (Or.inr ⟨by rfl, rfl⟩) ?_ ?_
              rotate_left
              · simp only [Act.put, List.setIfInBounds_toArray, List.set_cons_zero, List.set_cons_succ, i64_w, i32_w]
                rfl
              refine pure_ (i := 22) (N := some 77) (v := ?_) (a' := ?_) #[true, true, true, true, true, true, true, true, true, true, true, true, true, true, true, true, true, true, true, true, true, true, true] rfl rfl (any_of HT_.out (by kernel_rfl)) (fun _ _ _ h => h) (Or.inl ⟨by rfl, ?_⟩) ?_ ?_
              rotate_left
              · intro w'
                go_simp
                with_reducible rfl
              rotate_left
              · simp only [Act.put, List.setIfInBounds_toArray, List.set_cons_zero, List.set_cons_succ, i64_w, i32_w]
                rfl
              refine done_ (done_of HT_.out (by kernel_rfl)) ?_
              try go_wp2
              go_meet
              case rel => exact ⟨_, (true), (by first | rfl | (simp; done) | (simp [*]; done)), H', ⟨by first | omega | exact Nat.le_refl _⟩, ⟨by (with_reducible repeat (first | apply rA_ | apply rN_ | apply rD_)); exact HO453.out⟩, ⟨by (with_reducible repeat (first | apply rA_ | apply rN_ | apply rD_)); exact HO461.out⟩, ⟨by (with_reducible repeat (first | apply rA_ | apply rN_ | apply rD_)); exact HO468.out⟩, ⟨by (with_reducible repeat (first | apply kN_ | apply kD_ | apply kA_)); exact BK456.out⟩, ⟨by (with_reducible repeat (first | apply kN_ | apply kD_ | apply kA_)); exact BK463.out⟩, ⟨by (with_reducible repeat (first | apply kN_ | apply kD_ | apply kA_)); exact BK470.out⟩, ⟨by repeat (first | (with_reducible first | exact HB.out | apply bA_ | apply bN_ | apply bD_ | refine bS_ ?_ GE456.out | refine bS_ ?_ GE463.out | refine bS_ ?_ GE470.out) | exact HB.out)⟩⟩
          · replace c27 := Bool.eq_false_iff.mpr c27
            subst c27
            have H1 : (laws_FnSpent.j0 k t454 t455 true t449 t450 t451 t457 t458 t459) = some r := by rw [if_neg (show ¬ (false = true) by decide)] at H; exact H
            clear H
            have H := H1
            clear H1
            have H' := Aside0.mk H
            clear H
            try go_wp2
            have n0_ : Aside0 (Kd.R k48 48 (((w21.setCell ⟨gb470, 0, none⟩ (.int .i64 t464)).setCell ⟨gb470, 1, none⟩ (.int .i64 t465)).setCell ⟨gb470, 2, none⟩ (.slice Ao25 t466.length co25)) w.heap.size (fun k_ => some k_ ≠ (.slice Ao18 t459.length co18 : Value).ownBlock ∧ some k_ ≠ (.slice Ao25 t466.length co25 : Value).ownBlock) (.slice Ao13 t451.length co13) t451) := ⟨by (with_reducible repeat (first | apply rA_ | apply rN_ | apply rD_)); exact Kd.R_mono (Kd.R_far (p := ⟨gb470, 2, none⟩) (Kd.R_far (p := ⟨gb470, 1, none⟩) (Kd.R_far (p := ⟨gb470, 0, none⟩) (Kd.R_types HO453.out BK470.out (by decide)) (fun _ hk => hk.2) (.int .i64 t464)) (fun _ hk => hk.2) (.int .i64 t465)) (fun _ hk => hk.2) (.slice Ao25 t466.length co25)) (fun _ hk => ⟨hk.1.1.2, hk.1.2⟩)⟩
            have n1_ : Aside0 (Kd.R k48 48 (((w21.setCell ⟨gb470, 0, none⟩ (.int .i64 t464)).setCell ⟨gb470, 1, none⟩ (.int .i64 t465)).setCell ⟨gb470, 2, none⟩ (.slice Ao25 t466.length co25)) w.heap.size (fun k_ => some k_ ≠ (.slice Ao13 t451.length co13 : Value).ownBlock ∧ some k_ ≠ (.slice Ao25 t466.length co25 : Value).ownBlock) (.slice Ao18 t459.length co18) t459) := ⟨by (with_reducible repeat (first | apply rA_ | apply rN_ | apply rD_)); exact Kd.R_mono (Kd.R_far (p := ⟨gb470, 2, none⟩) (Kd.R_far (p := ⟨gb470, 1, none⟩) (Kd.R_far (p := ⟨gb470, 0, none⟩) (Kd.R_types HO461.out BK470.out (by decide)) (fun _ hk => hk.2) (.int .i64 t464)) (fun _ hk => hk.2) (.int .i64 t465)) (fun _ hk => hk.2) (.slice Ao25 t466.length co25)) (fun _ hk => ⟨hk.1.1.2, hk.1.2⟩)⟩
            have n2_ : Aside0 (Kd.R k48 48 (((w21.setCell ⟨gb470, 0, none⟩ (.int .i64 t464)).setCell ⟨gb470, 1, none⟩ (.int .i64 t465)).setCell ⟨gb470, 2, none⟩ (.slice Ao25 t466.length co25)) w.heap.size (fun k_ => some k_ ≠ (.slice Ao13 t451.length co13 : Value).ownBlock ∧ some k_ ≠ (.slice Ao18 t459.length co18 : Value).ownBlock) (.slice Ao25 t466.length co25) t466) := ⟨by (with_reducible repeat (first | apply rA_ | apply rN_ | apply rD_)); exact Kd.R_mono (Kd.R_far (p := ⟨gb470, 2, none⟩) (Kd.R_far (p := ⟨gb470, 1, none⟩) (Kd.R_far (p := ⟨gb470, 0, none⟩) (Kd.R_types HO468.out BK470.out (by decide)) (fun _ hk => hk.2) (.int .i64 t464)) (fun _ hk => hk.2) (.int .i64 t465)) (fun _ hk => hk.2) (.slice Ao25 t466.length co25)) (fun _ hk => ⟨hk.1.1.2, hk.1.2⟩)⟩
            have n3_ : Aside0 ((((w21.setCell ⟨gb470, 0, none⟩ (.int .i64 t464)).setCell ⟨gb470, 1, none⟩ (.int .i64 t465)).setCell ⟨gb470, 2, none⟩ (.slice Ao25 t466.length co25)).heap[gb456]? = some (.cells #[.int .i64 t449, .int .i64 t450, .slice Ao13 t451.length co13] 24 (0, 0))) := ⟨by (with_reducible repeat (first | apply kN_ | apply kD_ | apply kA_)); refine blk_far ?_ NB456_470.out _; (with_reducible repeat (first | apply kN_ | apply kD_ | apply kA_)); refine blk_far ?_ NB456_470.out _; (with_reducible repeat (first | apply kN_ | apply kD_ | apply kA_)); refine blk_far ?_ NB456_470.out _; (with_reducible repeat (first | apply kN_ | apply kD_ | apply kA_)); exact BK456.out⟩
            have n4_ : Aside0 ((((w21.setCell ⟨gb470, 0, none⟩ (.int .i64 t464)).setCell ⟨gb470, 1, none⟩ (.int .i64 t465)).setCell ⟨gb470, 2, none⟩ (.slice Ao25 t466.length co25)).heap[gb463]? = some (.cells #[.int .i64 t457, .int .i64 t458, .slice Ao18 t459.length co18] 24 (0, 0))) := ⟨by (with_reducible repeat (first | apply kN_ | apply kD_ | apply kA_)); refine blk_far ?_ NB463_470.out _; (with_reducible repeat (first | apply kN_ | apply kD_ | apply kA_)); refine blk_far ?_ NB463_470.out _; (with_reducible repeat (first | apply kN_ | apply kD_ | apply kA_)); refine blk_far ?_ NB463_470.out _; (with_reducible repeat (first | apply kN_ | apply kD_ | apply kA_)); exact BK463.out⟩
            have n5_ : Aside0 ((((w21.setCell ⟨gb470, 0, none⟩ (.int .i64 t464)).setCell ⟨gb470, 1, none⟩ (.int .i64 t465)).setCell ⟨gb470, 2, none⟩ (.slice Ao25 t466.length co25)).heap[gb470]? = some (.cells #[.int .i64 t464, .int .i64 t465, .slice Ao25 t466.length co25] 24 (0, 0))) := ⟨by (with_reducible repeat (first | apply kN_ | apply kD_ | apply kA_)); refine blk_put (cs := #[.int .i64 t464, .int .i64 t465, .slice none 0 0]) ?_ 2 _ rfl; (with_reducible repeat (first | apply kN_ | apply kD_ | apply kA_)); refine blk_put (cs := #[.int .i64 t464, .int .i64 0, .slice none 0 0]) ?_ 1 _ rfl; (with_reducible repeat (first | apply kN_ | apply kD_ | apply kA_)); refine blk_put (cs := #[.int .i64 0, .int .i64 0, .slice none 0 0]) ?_ 0 _ rfl; (with_reducible repeat (first | apply kN_ | apply kD_ | apply kA_)); exact BK470.out⟩
            have n6_ : Aside0 (Below w.heap.size w (((w21.setCell ⟨gb470, 0, none⟩ (.int .i64 t464)).setCell ⟨gb470, 1, none⟩ (.int .i64 t465)).setCell ⟨gb470, 2, none⟩ (.slice Ao25 t466.length co25))) := ⟨by repeat (first | (with_reducible first | exact HB.out | apply bA_ | apply bN_ | apply bD_ | refine bS_ ?_ GE456.out | refine bS_ ?_ GE463.out | refine bS_ ?_ GE470.out) | exact HB.out)⟩
            (try clear HO453)
            (try clear HO461)
            (try clear HO468)
            (try clear BK456)
            (try clear BK463)
            (try clear BK470)
            (try clear HB)
            generalize (((w21.setCell ⟨gb470, 0, none⟩ (.int .i64 t464)).setCell ⟨gb470, 1, none⟩ (.int .i64 t465)).setCell ⟨gb470, 2, none⟩ (.slice Ao25 t466.length co25)) = w39 at n0_ n1_ n2_ n3_ n4_ n5_ n6_ ⊢
            have HO453 := n0_
            have HO461 := n1_
            have HO468 := n2_
            have BK456 := n3_
            have BK463 := n4_
            have BK470 := n5_
            have HB := n6_
            clear n0_ n1_ n2_ n3_ n4_ n5_ n6_
            replace HO453 := As_ (Kd.R_drew HO453.out)
            replace HO461 := As_ (Kd.R_drew HO461.out)
            replace HO468 := As_ (Kd.R_drew HO468.out)
            replace BK456 := As_ (blk_drew BK456.out)
            replace BK463 := As_ (blk_drew BK463.out)
            replace BK470 := As_ (blk_drew BK470.out)
            replace HB := As_ (below_drew1 HB.out)
            refine start_ (n := 23) (S := fun w' => w'.cell? ⟨gb463, 0, none⟩ = some (.int .i64 t457) ∧ w'.cell? ⟨gb463, 1, none⟩ = some (.int .i64 t458) ∧ w'.cell? ⟨gb463, 2, none⟩ = some (.slice Ao18 t459.length co18)) (ds := []) #[false, false, false, false, false, false, false, false, false, false, false, false, false, false, false, false, false, false, false, false, false, false, false] (by kernel_rfl) rfl rfl ⟨(blk_cell BK463.out 0).trans rfl, (blk_cell BK463.out 1).trans rfl, (blk_cell BK463.out 2).trans rfl⟩ (fun hHeld => ?_); refine with_tabW laws_FnSpent.tab10 laws_FnSpent.bits10 (fun HT_ HW_ => ?_)
            generalize w39.drew = w40 at HO453 HO461 HO468 BK456 BK463 BK470 HB hHeld ⊢
            refine take_ (i := 0) (N := some 55) (v := ?_) (a' := ?_) #[true, false, false, false, false, false, false, false, false, false, false, false, false, false, false, false, false, false, false, false, false, false, false] rfl rfl (take_ofW HT_.out HW_.out (by kernel_rfl)) (fun _ _ _ h => h) (Or.inl ⟨by rfl, ?_⟩) hHeld ?_ ?_
            rotate_left
            · rintro w' ⟨s0, s1, s2⟩
              go_simp
              with_reducible rfl
            rotate_left
            · simp only [Act.put, List.setIfInBounds_toArray, List.set_cons_zero, List.set_cons_succ, i64_w, i32_w]
              rfl
            refine one_ (i := 1) (N := some 56) #[true, true, false, false, false, false, false, false, false, false, false, false, false, false, false, false, false, false, false, false, false, false, false] rfl rfl (one_of HT_.out (by kernel_rfl)) (by decide) (fun K hK => ?_)
            refine goes_ Try.func21 (by kernel_rfl) rfl #[.agg #[.int .i64 t457, .int .i64 t458, .slice Ao18 t459.length co18]] (by rfl) rfl rfl (by (try simp only [List.map_toArray, List.map_cons, List.map_nil]); first | done | rfl | (simp only [List.length_drop, List.length_take]; rfl)) ?_
            with_reducible refine (impl_FlowOk.calls k t457 t458 _ _ t459 false _ ?side1 ?side2 A26.out).mono ?_
            (case side1 => repeat (first | exact (Kd.R_reads' HO461.out).2.2 | (with_reducible first | apply cA_ | apply cN_ | apply cD_)))
            (case side2 => exact (Kd.R_reads' HO461.out).2.1)
            rintro e w41 ⟨rfl, hb⟩
            refine ⟨_, rfl, ?_⟩
            replace HO453 := As_ (Kd.R_below (by (with_reducible repeat (first | apply rA_ | apply rN_ | apply rD_)); exact HO453.out) hb)
            replace HO461 := As_ (Kd.R_below (by (with_reducible repeat (first | apply rA_ | apply rN_ | apply rD_)); exact HO461.out) hb)
            replace HO468 := As_ (Kd.R_below (by (with_reducible repeat (first | apply rA_ | apply rN_ | apply rD_)); exact HO468.out) hb)
            replace BK456 := As_ (blk_below (g := gb456) (o := .cells #[.int .i64 t449, .int .i64 t450, .slice Ao13 t451.length co13] 24 (0, 0)) (by (with_reducible repeat (first | apply kN_ | apply kD_ | apply kA_)); exact BK456.out) hb)
            replace BK463 := As_ (blk_below (g := gb463) (o := .cells #[.int .i64 t457, .int .i64 t458, .slice Ao18 t459.length co18] 24 (0, 0)) (by (with_reducible repeat (first | apply kN_ | apply kD_ | apply kA_)); exact BK463.out) hb)
            replace BK470 := As_ (blk_below (g := gb470) (o := .cells #[.int .i64 t464, .int .i64 t465, .slice Ao25 t466.length co25] 24 (0, 0)) (by (with_reducible repeat (first | apply kN_ | apply kD_ | apply kA_)); exact BK470.out) hb)
            replace HB := As_ (below_step (by repeat (first | (with_reducible first | exact HB.out | apply bA_ | apply bN_ | apply bD_ | refine bS_ ?_ GE456.out | refine bS_ ?_ GE463.out | refine bS_ ?_ GE470.out) | exact HB.out)) hb)
            (try clear hb)
            (try clear hb2)
            (try clear hk)
            (try clear hi)
            refine hK.out _ _ ⟨(blk_cell BK463.out 0).trans rfl, (blk_cell BK463.out 1).trans rfl, (blk_cell BK463.out 2).trans rfl⟩ (fun hHeld => ?_)
            clear hK K
            refine norm_ (a' := ?_) ?_ ?_
            rotate_left
            · show Act.put _ (some 56) _ = _
              simp only [Act.put, List.setIfInBounds_toArray, List.set_cons_zero, List.set_cons_succ, i64_w, i32_w]
              rfl
            refine pure_ (i := 2) (N := some 57) (v := ?_) (a' := ?_) #[true, true, true, false, false, false, false, false, false, false, false, false, false, false, false, false, false, false, false, false, false, false, false] rfl rfl (any_of HT_.out (by kernel_rfl)) (fun _ _ _ h => h) (Or.inl ⟨by rfl, ?_⟩) ?_ ?_
            rotate_left
            · intro w'
              go_simp
              with_reducible rfl
            rotate_left
            · simp only [Act.put, List.setIfInBounds_toArray, List.set_cons_zero, List.set_cons_succ, i64_w, i32_w]
              rfl
            refine pure_ (i := 3) (N := some 58) (v := ?_) (a' := ?_) #[true, true, true, true, false, false, false, false, false, false, false, false, false, false, false, false, false, false, false, false, false, false, false] rfl rfl (any_of HT_.out (by kernel_rfl)) (fun _ _ _ h => h) (Or.inl ⟨by rfl, ?_⟩) ?_ ?_
            rotate_left
            · intro w'
              go_simp
              with_reducible rfl
            rotate_left
            · simp only [Act.put, List.setIfInBounds_toArray, List.set_cons_zero, List.set_cons_succ, i64_w, i32_w]
              rfl
            refine pure_ (i := 4) (N := some 59) (v := undef) (a' := ?_) #[true, true, true, true, true, false, false, false, false, false, false, false, false, false, false, false, false, false, false, false, false, false, false] rfl rfl (any_of HT_.out (by kernel_rfl)) (fun _ _ _ h => h) (Or.inr ⟨by rfl, rfl⟩) ?_ ?_
            rotate_left
            · simp only [Act.put, List.setIfInBounds_toArray, List.set_cons_zero, List.set_cons_succ, i64_w, i32_w]
              rfl
            refine pure_ (i := 5) (N := some 60) (v := undef) (a' := ?_) #[true, true, true, true, true, true, false, false, false, false, false, false, false, false, false, false, false, false, false, false, false, false, false] rfl rfl (any_of HT_.out (by kernel_rfl)) (fun _ _ _ h => h) (Or.inr ⟨by rfl, rfl⟩) ?_ ?_
            rotate_left
            · simp only [Act.put, List.setIfInBounds_toArray, List.set_cons_zero, List.set_cons_succ, i64_w, i32_w]
              rfl
            refine pure_ (i := 6) (N := some 61) (v := undef) (a' := ?_) #[true, true, true, true, true, true, true, false, false, false, false, false, false, false, false, false, false, false, false, false, false, false, false] rfl rfl (any_of HT_.out (by kernel_rfl)) (fun _ _ _ h => h) (Or.inr ⟨by rfl, rfl⟩) ?_ ?_
            rotate_left
            · simp only [Act.put, List.setIfInBounds_toArray, List.set_cons_zero, List.set_cons_succ, i64_w, i32_w]
              rfl
            refine pure_ (i := 7) (N := some 62) (v := undef) (a' := ?_) #[true, true, true, true, true, true, true, true, false, false, false, false, false, false, false, false, false, false, false, false, false, false, false] rfl rfl (any_of HT_.out (by kernel_rfl)) (fun _ _ _ h => h) (Or.inr ⟨by rfl, rfl⟩) ?_ ?_
            rotate_left
            · simp only [Act.put, List.setIfInBounds_toArray, List.set_cons_zero, List.set_cons_succ, i64_w, i32_w]
              rfl
            refine pure_ (i := 8) (N := some 63) (v := undef) (a' := ?_) #[true, true, true, true, true, true, true, true, true, false, false, false, false, false, false, false, false, false, false, false, false, false, false] rfl rfl (any_of HT_.out (by kernel_rfl)) (fun _ _ _ h => h) (Or.inr ⟨by rfl, rfl⟩) ?_ ?_
            rotate_left
            · simp only [Act.put, List.setIfInBounds_toArray, List.set_cons_zero, List.set_cons_succ, i64_w, i32_w]
              rfl
            refine pure_ (i := 9) (N := some 64) (v := undef) (a' := ?_) #[true, true, true, true, true, true, true, true, true, true, false, false, false, false, false, false, false, false, false, false, false, false, false] rfl rfl (any_of HT_.out (by kernel_rfl)) (fun _ _ _ h => h) (Or.inr ⟨by rfl, rfl⟩) ?_ ?_
            rotate_left
            · simp only [Act.put, List.setIfInBounds_toArray, List.set_cons_zero, List.set_cons_succ, i64_w, i32_w]
              rfl
            refine pure_ (i := 10) (N := some 65) (v := undef) (a' := ?_) #[true, true, true, true, true, true, true, true, true, true, true, false, false, false, false, false, false, false, false, false, false, false, false] rfl rfl (any_of HT_.out (by kernel_rfl)) (fun _ _ _ h => h) (Or.inr ⟨by rfl, rfl⟩) ?_ ?_
            rotate_left
            · simp only [Act.put, List.setIfInBounds_toArray, List.set_cons_zero, List.set_cons_succ, i64_w, i32_w]
              rfl
            refine pure_ (i := 11) (N := some 66) (v := ?_) (a' := ?_) #[true, true, true, true, true, true, true, true, true, true, true, true, false, false, false, false, false, false, false, false, false, false, false] rfl rfl (any_of HT_.out (by kernel_rfl)) (fun _ _ _ h => h) (Or.inl ⟨by rfl, ?_⟩) ?_ ?_
            rotate_left
            · intro w'
              go_simp
              with_reducible rfl
            rotate_left
            · simp only [Act.put, List.setIfInBounds_toArray, List.set_cons_zero, List.set_cons_succ, i64_w, i32_w]
              rfl
            refine pure_ (i := 12) (N := some 67) (v := ?_) (a' := ?_) #[true, true, true, true, true, true, true, true, true, true, true, true, true, false, false, false, false, false, false, false, false, false, false] rfl rfl (any_of HT_.out (by kernel_rfl)) (fun _ _ _ h => h) (Or.inl ⟨by rfl, ?_⟩) ?_ ?_
            rotate_left
            · intro w'
              go_simp
              with_reducible rfl
            rotate_left
            · simp only [Act.put, List.setIfInBounds_toArray, List.set_cons_zero, List.set_cons_succ, i64_w, i32_w]
              rfl
            refine pure_ (i := 13) (N := some 68) (v := undef) (a' := ?_) #[true, true, true, true, true, true, true, true, true, true, true, true, true, true, false, false, false, false, false, false, false, false, false] rfl rfl (any_of HT_.out (by kernel_rfl)) (fun _ _ _ h => h) (Or.inr ⟨by rfl, rfl⟩) ?_ ?_
            rotate_left
            · simp only [Act.put, List.setIfInBounds_toArray, List.set_cons_zero, List.set_cons_succ, i64_w, i32_w]
              rfl
            refine pure_ (i := 14) (N := some 69) (v := undef) (a' := ?_) #[true, true, true, true, true, true, true, true, true, true, true, true, true, true, true, false, false, false, false, false, false, false, false] rfl rfl (any_of HT_.out (by kernel_rfl)) (fun _ _ _ h => h) (Or.inr ⟨by rfl, rfl⟩) ?_ ?_
            rotate_left
            · simp only [Act.put, List.setIfInBounds_toArray, List.set_cons_zero, List.set_cons_succ, i64_w, i32_w]
              rfl
            refine pure_ (i := 15) (N := some 70) (v := undef) (a' := ?_) #[true, true, true, true, true, true, true, true, true, true, true, true, true, true, true, true, false, false, false, false, false, false, false] rfl rfl (any_of HT_.out (by kernel_rfl)) (fun _ _ _ h => h) (Or.inr ⟨by rfl, rfl⟩) ?_ ?_
            rotate_left
            · simp only [Act.put, List.setIfInBounds_toArray, List.set_cons_zero, List.set_cons_succ, i64_w, i32_w]
              rfl
            refine pure_ (i := 16) (N := some 71) (v := undef) (a' := ?_) #[true, true, true, true, true, true, true, true, true, true, true, true, true, true, true, true, true, false, false, false, false, false, false] rfl rfl (any_of HT_.out (by kernel_rfl)) (fun _ _ _ h => h) (Or.inr ⟨by rfl, rfl⟩) ?_ ?_
            rotate_left
            · simp only [Act.put, List.setIfInBounds_toArray, List.set_cons_zero, List.set_cons_succ, i64_w, i32_w]
              rfl
            refine pure_ (i := 17) (N := some 72) (v := undef) (a' := ?_) #[true, true, true, true, true, true, true, true, true, true, true, true, true, true, true, true, true, true, false, false, false, false, false] rfl rfl (any_of HT_.out (by kernel_rfl)) (fun _ _ _ h => h) (Or.inr ⟨by rfl, rfl⟩) ?_ ?_
            rotate_left
            · simp only [Act.put, List.setIfInBounds_toArray, List.set_cons_zero, List.set_cons_succ, i64_w, i32_w]
              rfl
            refine pure_ (i := 18) (N := some 73) (v := undef) (a' := ?_) #[true, true, true, true, true, true, true, true, true, true, true, true, true, true, true, true, true, true, true, false, false, false, false] rfl rfl (any_of HT_.out (by kernel_rfl)) (fun _ _ _ h => h) (Or.inr ⟨by rfl, rfl⟩) ?_ ?_
            rotate_left
            · simp only [Act.put, List.setIfInBounds_toArray, List.set_cons_zero, List.set_cons_succ, i64_w, i32_w]
              rfl
            refine pure_ (i := 19) (N := some 74) (v := undef) (a' := ?_) #[true, true, true, true, true, true, true, true, true, true, true, true, true, true, true, true, true, true, true, true, false, false, false] rfl rfl (any_of HT_.out (by kernel_rfl)) (fun _ _ _ h => h) (Or.inr ⟨by rfl, rfl⟩) ?_ ?_
            rotate_left
            · simp only [Act.put, List.setIfInBounds_toArray, List.set_cons_zero, List.set_cons_succ, i64_w, i32_w]
              rfl
            refine pure_ (i := 20) (N := some 75) (v := undef) (a' := ?_) #[true, true, true, true, true, true, true, true, true, true, true, true, true, true, true, true, true, true, true, true, true, false, false] rfl rfl (any_of HT_.out (by kernel_rfl)) (fun _ _ _ h => h) (Or.inr ⟨by rfl, rfl⟩) ?_ ?_
            rotate_left
            · simp only [Act.put, List.setIfInBounds_toArray, List.set_cons_zero, List.set_cons_succ, i64_w, i32_w]
              rfl
            refine pure_ (i := 21) (N := some 76) (v := undef) (a' := ?_) #[true, true, true, true, true, true, true, true, true, true, true, true, true, true, true, true, true, true, true, true, true, true, false] rfl rfl (any_of HT_.out (by kernel_rfl)) (fun _ _ _ h => h) (Or.inr ⟨by rfl, rfl⟩) ?_ ?_
            rotate_left
            · simp only [Act.put, List.setIfInBounds_toArray, List.set_cons_zero, List.set_cons_succ, i64_w, i32_w]
              rfl
            refine pure_ (i := 22) (N := some 77) (v := ?_) (a' := ?_) #[true, true, true, true, true, true, true, true, true, true, true, true, true, true, true, true, true, true, true, true, true, true, true] rfl rfl (any_of HT_.out (by kernel_rfl)) (fun _ _ _ h => h) (Or.inl ⟨by rfl, ?_⟩) ?_ ?_
            rotate_left
            · intro w'
              go_simp
              with_reducible rfl
            rotate_left
            · simp only [Act.put, List.setIfInBounds_toArray, List.set_cons_zero, List.set_cons_succ, i64_w, i32_w]
              rfl
            refine done_ (done_of HT_.out (by kernel_rfl)) ?_
            try go_wp2
            go_meet
            case rel => exact ⟨_, (true), (by first | rfl | (simp; done) | (simp [*]; done)), H', ⟨by first | omega | exact Nat.le_refl _⟩, ⟨by (with_reducible repeat (first | apply rA_ | apply rN_ | apply rD_)); exact HO453.out⟩, ⟨by (with_reducible repeat (first | apply rA_ | apply rN_ | apply rD_)); exact HO461.out⟩, ⟨by (with_reducible repeat (first | apply rA_ | apply rN_ | apply rD_)); exact HO468.out⟩, ⟨by (with_reducible repeat (first | apply kN_ | apply kD_ | apply kA_)); exact BK456.out⟩, ⟨by (with_reducible repeat (first | apply kN_ | apply kD_ | apply kA_)); exact BK463.out⟩, ⟨by (with_reducible repeat (first | apply kN_ | apply kD_ | apply kA_)); exact BK470.out⟩, ⟨by repeat (first | (with_reducible first | exact HB.out | apply bA_ | apply bN_ | apply bD_ | refine bS_ ?_ GE456.out | refine bS_ ?_ GE463.out | refine bS_ ?_ GE470.out) | exact HB.out)⟩⟩
        case rest =>
          clear HC9
          try clear c2
          try clear p2
          try clear p6
          try clear c21
          try clear c23
          try clear c27
          try clear c28
          try clear c28b0
          try clear c28b1
          obtain ⟨kq, x77_8, rfl, HA, HJ8, HO_457002, HO_464002, HO_471002, BK456, BK463, BK470, HB⟩ := hcut
          cases kq with
          | zero => exact absurd HA.out (by simp [laws_FnSpent.j0])
          | succ kj8 =>
            have H := HA.out
            clear HA
            simp only [laws_FnSpent.j0] at H
            by_cases c42 : x77_8 = true
            · subst c42
              have H1 : (none) = some r := by rw [if_pos rfl] at H; exact H
              clear H
              have H := H1
              clear H1
              exact absurd H (by simp)
            · replace c42 := Bool.eq_false_iff.mpr c42
              subst c42
              have H1 : (if t455 = 0 then (some true) else ((impl_Grant.f kj8 t457 t458 t459 t454 t455).bind fun bt476 => ((impl_Grant.f kj8 bt476.1 bt476.2.1 bt476.2.2.1 0 t455).bind fun bt483 => (if bt476.2.2.2 = true then (if bt483.2.2.2 = true then (if bt483.1 = t449 then ((impl_RoomOf.f kj8 bt483.1 bt483.2.1 bt483.2.2.1 t454).bind fun t490 => ((impl_RoomOf.f kj8 t449 t450 t451 t454).bind fun t491 => (some (t490 == t491)))) else (none)) else (none)) else (none))))) = some r := by rw [if_neg (show ¬ (false = true) by decide)] at H; exact H
              clear H
              have H := H1
              clear H1
              by_cases c43 : t455 = 0
              · rw [if_pos c43] at H
                have c43b0 : (t455 == 0) = true := beq_iff_eq.mpr c43
                have c43b1 : (t455 != 0) = false := bne_eq_false_iff_eq.mpr c43
                clear c43
                obtain rfl := Option.some.inj H
                go_wp2
                go_ret
                exact ⟨by first | rfl | (simp [errW_none, errW_some] <;> rfl) | (simp [*, errW_none, errW_some] <;> rfl), by repeat (first | (with_reducible first | exact HB.out | apply bA_ | apply bN_ | apply bD_ | refine bS_ ?_ GE456.out | refine bS_ ?_ GE463.out | refine bS_ ?_ GE470.out) | exact HB.out)⟩
              · rw [if_neg c43] at H
                have c43b0 : (t455 == 0) = false := beq_eq_false_iff_ne.mpr c43
                have c43b1 : (t455 != 0) = true := bne_iff_ne.mpr c43
                replace H := Option.bind_eq_some_iff.mp H
                obtain ⟨⟨t476, t477, t478, t481⟩, A440, H⟩ := H
                replace H : ((impl_Grant.f kj8 t476 t477 t478 0 t455).bind fun bt483 => (if t481 = true then (if bt483.2.2.2 = true then (if bt483.1 = t449 then ((impl_RoomOf.f kj8 bt483.1 bt483.2.1 bt483.2.2.1 t454).bind fun t490 => ((impl_RoomOf.f kj8 t449 t450 t451 t454).bind fun t491 => (some (t490 == t491)))) else (none)) else (none)) else (none))) = some r := H
                have A44 := Aside0.mk A440
                clear A440
                replace H := Option.bind_eq_some_iff.mp H
                obtain ⟨⟨t483, t484, t485, t488⟩, A450, H⟩ := H
                replace H : (if t481 = true then (if t488 = true then (if t483 = t449 then ((impl_RoomOf.f kj8 t483 t484 t485 t454).bind fun t490 => ((impl_RoomOf.f kj8 t449 t450 t451 t454).bind fun t491 => (some (t490 == t491)))) else (none)) else (none)) else (none)) = some r := H
                have A45 := Aside0.mk A450
                clear A450
                by_cases c46 : t481 = true
                · subst c46
                  have H1 : (if t488 = true then (if t483 = t449 then ((impl_RoomOf.f kj8 t483 t484 t485 t454).bind fun t490 => ((impl_RoomOf.f kj8 t449 t450 t451 t454).bind fun t491 => (some (t490 == t491)))) else (none)) else (none)) = some r := by rw [if_pos rfl] at H; exact H
                  clear H
                  have H := H1
                  clear H1
                  by_cases c47 : t488 = true
                  · subst c47
                    have H1 : (if t483 = t449 then ((impl_RoomOf.f kj8 t483 t484 t485 t454).bind fun t490 => ((impl_RoomOf.f kj8 t449 t450 t451 t454).bind fun t491 => (some (t490 == t491)))) else (none)) = some r := by rw [if_pos rfl] at H; exact H
                    clear H
                    have H := H1
                    clear H1
                    by_cases c48 : t483 = t449
                    · rw [if_pos c48] at H
                      have c48b0 : (t483 == t449) = true := beq_iff_eq.mpr c48
                      have c48b1 : (t483 != t449) = false := bne_eq_false_iff_eq.mpr c48
                      clear c48
                      replace H := Option.bind_eq_some_iff.mp H
                      obtain ⟨t490, A490, H⟩ := H
                      replace H : ((impl_RoomOf.f kj8 t449 t450 t451 t454).bind fun t491 => (some (t490 == t491))) = some r := H
                      have A49 := Aside0.mk A490
                      clear A490
                      replace H := Option.bind_eq_some_iff.mp H
                      obtain ⟨t491, A500, H⟩ := H
                      replace H : (some (t490 == t491)) = some r := H
                      have A50 := Aside0.mk A500
                      clear A500
                      obtain rfl := Option.some.inj H
                      have hnb51 := NB463_456.out
                      have hnc51 := NB456_463.out
                      have hnb52 := NB463_470.out
                      have hnc52 := NB470_463.out
                      obtain ⟨hcz53_0, hcz53_1, hcz53_2, hfz53_0, hfz53_1, hfz53_2⟩ := blk_all3 BK463.out
                      try go_wp2_with (first | ((with_reducible refine gate_callee (f := 29) rfl ?_); refine goesL_ (some 84) rfl rfl Try.func29 (by kernel_rfl) rfl #[.agg #[.int .i64 t457, .int .i64 t458, .slice Ao18 t459.length co18], .int .i64 t454, .int .i64 t455] rfl (by (try simp only [List.map_toArray, List.map_cons, List.map_nil]); first | done | rfl | (simp only [List.length_drop, List.length_take]; rfl)) ?_; (with_reducible refine (impl_Grant.calls kj8 t457 t458 _ _ t459 t454 t455 t476 t477 t478 true _ ?side1 ?side2 A44.out).mono ?_); (case side1 => repeat (first | exact (Kd.R_reads' HO_464002.out).2.2 | (with_reducible first | apply cA_ | apply cN_ | apply cD_))); (case side2 => exact (Kd.R_reads' HO_464002.out).2.1); rintro e w54 ⟨v479, rfl, ho0, hb⟩; refine ⟨_, rfl, ?_⟩; have n0_ := As_ (Kd.R_elder' (by (with_reducible repeat (first | apply rA_ | apply rN_ | apply rD_)); exact HO_457002.out) (Kd.R_base ho0) hb); have n1_ := As_ (Kd.R_elder' (by (with_reducible repeat (first | apply rA_ | apply rN_ | apply rD_)); exact HO_464002.out) (Kd.R_base ho0) hb); have n2_ := As_ (Kd.R_elder' (by (with_reducible repeat (first | apply rA_ | apply rN_ | apply rD_)); exact HO_471002.out) (Kd.R_base ho0) hb); have HO480 := As_ (Kd.R_lower (Kd.R_new' (Kd.R_new' (Kd.R_new' ho0 (Kd.R_lt (by (with_reducible repeat (first | apply rA_ | apply rN_ | apply rD_)); exact HO_457002.out))) (Kd.R_lt (by (with_reducible repeat (first | apply rA_ | apply rN_ | apply rD_)); exact HO_464002.out))) (Kd.R_lt (by (with_reducible repeat (first | apply rA_ | apply rN_ | apply rD_)); exact HO_471002.out))) (below_size (by repeat (first | (with_reducible first | exact HB.out | apply bA_ | apply bN_ | apply bD_ | refine bS_ ?_ GE456.out | refine bS_ ?_ GE463.out | refine bS_ ?_ GE470.out) | exact HB.out)))); replace BK456 := As_ (blk_below (g := gb456) (o := .cells #[.int .i64 t449, .int .i64 t450, .slice Ao13 t451.length co13] 24 (0, 0)) (by (with_reducible repeat (first | apply kN_ | apply kD_ | apply kA_)); exact BK456.out) hb); replace BK463 := As_ (blk_below (g := gb463) (o := .cells #[.int .i64 t457, .int .i64 t458, .slice Ao18 t459.length co18] 24 (0, 0)) (by (with_reducible repeat (first | apply kN_ | apply kD_ | apply kA_)); exact BK463.out) hb); replace BK470 := As_ (blk_below (g := gb470) (o := .cells #[.int .i64 t464, .int .i64 t465, .slice Ao25 t466.length co25] 24 (0, 0)) (by (with_reducible repeat (first | apply kN_ | apply kD_ | apply kA_)); exact BK470.out) hb); replace HB := As_ (below_step (by repeat (first | (with_reducible first | exact HB.out | apply bA_ | apply bN_ | apply bD_ | refine bS_ ?_ GE456.out | refine bS_ ?_ GE463.out | refine bS_ ?_ GE470.out) | exact HB.out)) hb); clear HO_457002 HO_464002 HO_471002; have HO_457002 := n0_; have HO_464002 := n1_; have HO_471002 := n2_; clear n0_ n1_ n2_; (try clear hb); (try clear hb2); (try clear hk); (try clear hi); (try clear ho0)) | ((with_reducible refine gate_dst (N := 10) rfl ?_); refine box_event ?hg (N := 10) ?hd (cs := #[.int .i64 0, .int .i64 0, .slice none 0 0]) (t := 24) ?hr ?_; (case hd => rfl); (case hg => rfl); (case hr => first | (go_simp; done) | (go_simp; rfl)); intro gb482 hg w55 hbox hb; have n0_ := As_ (Kd.R_below (by (with_reducible repeat (first | apply rA_ | apply rN_ | apply rD_)); exact HO_457002.out) hb); have n1_ := As_ (Kd.R_below (by (with_reducible repeat (first | apply rA_ | apply rN_ | apply rD_)); exact HO_464002.out) hb); have n2_ := As_ (Kd.R_below (by (with_reducible repeat (first | apply rA_ | apply rN_ | apply rD_)); exact HO_471002.out) hb); have n3_ := As_ (Kd.R_below (by (with_reducible repeat (first | apply rA_ | apply rN_ | apply rD_)); exact HO480.out) hb); have n4_ := As_ (blk_below (g := gb456) (o := .cells #[.int .i64 t449, .int .i64 t450, .slice Ao13 t451.length co13] 24 (0, 0)) (by (with_reducible repeat (first | apply kN_ | apply kD_ | apply kA_)); exact BK456.out) hb); have n5_ := As_ (blk_below (g := gb463) (o := .cells #[.int .i64 t457, .int .i64 t458, .slice Ao18 t459.length co18] 24 (0, 0)) (by (with_reducible repeat (first | apply kN_ | apply kD_ | apply kA_)); exact BK463.out) hb); have n6_ := As_ (blk_below (g := gb470) (o := .cells #[.int .i64 t464, .int .i64 t465, .slice Ao25 t466.length co25] 24 (0, 0)) (by (with_reducible repeat (first | apply kN_ | apply kD_ | apply kA_)); exact BK470.out) hb); have n7_ := As_ (below_step (by repeat (first | (with_reducible first | exact HB.out | apply bA_ | apply bN_ | apply bD_ | refine bS_ ?_ GE456.out | refine bS_ ?_ GE463.out | refine bS_ ?_ GE470.out) | exact HB.out)) hb); have n8_ := As_ (hbox); have n9_ := As_ ((by rw [hg]; exact (below_size (by repeat (first | (with_reducible first | exact HB.out | apply bA_ | apply bN_ | apply bD_ | refine bS_ ?_ GE456.out | refine bS_ ?_ GE463.out | refine bS_ ?_ GE470.out) | exact HB.out))) : w.heap.size ≤ gb482)); have n10_ := As_ ((by rw [hg]; exact (below_size (by repeat (first | (with_reducible first | exact HB.out | apply bA_ | apply bN_ | apply bD_ | refine bS_ ?_ GE456.out | refine bS_ ?_ GE463.out | refine bS_ ?_ GE470.out) | exact HB.out))) : w.heap.size ≤ gb482)); have n11_ := As_ ((by rw [hg]; exact Nat.ne_of_lt (blk_lt (g := gb456) (o := .cells #[.int .i64 t449, .int .i64 t450, .slice Ao13 t451.length co13] 24 (0, 0)) (by (with_reducible repeat (first | apply kN_ | apply kD_ | apply kA_)); exact BK456.out)) : gb456 ≠ gb482)); have n12_ := As_ ((by rw [hg]; exact Nat.ne_of_gt (blk_lt (g := gb456) (o := .cells #[.int .i64 t449, .int .i64 t450, .slice Ao13 t451.length co13] 24 (0, 0)) (by (with_reducible repeat (first | apply kN_ | apply kD_ | apply kA_)); exact BK456.out)) : gb482 ≠ gb456)); have n13_ := As_ ((by rw [hg]; exact Nat.ne_of_lt (blk_lt (g := gb463) (o := .cells #[.int .i64 t457, .int .i64 t458, .slice Ao18 t459.length co18] 24 (0, 0)) (by (with_reducible repeat (first | apply kN_ | apply kD_ | apply kA_)); exact BK463.out)) : gb463 ≠ gb482)); have n14_ := As_ ((by rw [hg]; exact Nat.ne_of_gt (blk_lt (g := gb463) (o := .cells #[.int .i64 t457, .int .i64 t458, .slice Ao18 t459.length co18] 24 (0, 0)) (by (with_reducible repeat (first | apply kN_ | apply kD_ | apply kA_)); exact BK463.out)) : gb482 ≠ gb463)); have n15_ := As_ ((by rw [hg]; exact Nat.ne_of_lt (blk_lt (g := gb470) (o := .cells #[.int .i64 t464, .int .i64 t465, .slice Ao25 t466.length co25] 24 (0, 0)) (by (with_reducible repeat (first | apply kN_ | apply kD_ | apply kA_)); exact BK470.out)) : gb470 ≠ gb482)); have n16_ := As_ ((by rw [hg]; exact Nat.ne_of_gt (blk_lt (g := gb470) (o := .cells #[.int .i64 t464, .int .i64 t465, .slice Ao25 t466.length co25] 24 (0, 0)) (by (with_reducible repeat (first | apply kN_ | apply kD_ | apply kA_)); exact BK470.out)) : gb482 ≠ gb470)); clear HO_457002 HO_464002 HO_471002 HO480 BK456 BK463 BK470 HB; have HO_457002 := n0_; have HO_464002 := n1_; have HO_471002 := n2_; have HO480 := n3_; have BK456 := n4_; have BK463 := n5_; have BK470 := n6_; have HB := n7_; have BK482 := n8_; have GW482 := n9_; have GE482 := n10_; have NB456_482 := n11_; have NB482_456 := n12_; have NB463_482 := n13_; have NB482_463 := n14_; have NB470_482 := n15_; have NB482_470 := n16_; clear n0_ n1_ n2_ n3_ n4_ n5_ n6_ n7_ n8_ n9_ n10_ n11_ n12_ n13_ n14_ n15_ n16_ hb hbox hg; have hnb56 := NB482_456.out; have hnc56 := NB456_482.out; have hnb57 := NB482_463.out; have hnc57 := NB463_482.out; have hnb58 := NB482_470.out; have hnc58 := NB470_482.out; obtain ⟨hcz59_0, hcz59_1, hcz59_2, hfz59_0, hfz59_1, hfz59_2⟩ := blk_all3 BK482.out; obtain ⟨Ao60, co60, eo60⟩ := Kd.R_slice HO480.out; subst eo60) | ((with_reducible refine gate_callee (f := 29) rfl ?_); refine goesL_ (some 90) rfl rfl Try.func29 (by kernel_rfl) rfl #[.agg #[.int .i64 t476, .int .i64 t477, .slice Ao60 t478.length co60], .int .i64 0, .int .i64 t455] rfl (by (try simp only [List.map_toArray, List.map_cons, List.map_nil]); first | done | rfl | (simp only [List.length_drop, List.length_take]; rfl)) ?_; (with_reducible refine (impl_Grant.calls kj8 t476 t477 _ _ t478 0 t455 t483 t484 t485 true _ ?side1 ?side2 A45.out).mono ?_); (case side1 => refine (Kd.R_reads' (e := 48) (base := w.heap.size) (ok := fun k_ => (((True ∧ some k_ ≠ (.slice Ao13 t451.length co13 : Value).ownBlock) ∧ some k_ ≠ (.slice Ao18 t459.length co18 : Value).ownBlock) ∧ some k_ ≠ (.slice Ao25 t466.length co25 : Value).ownBlock)) (n := t478.length) (c := co60) ?_).2.2; exact (by (with_reducible repeat (first | apply rA_ | apply rN_ | apply rD_)); exact (Kd.R_mono (Kd.R_far (p := ⟨gb482, 2, none⟩) (Kd.R_far (p := ⟨gb482, 1, none⟩) (Kd.R_far (p := ⟨gb482, 0, none⟩) (Kd.R_types HO480.out BK482.out (by decide)) (fun _ hk => hk.2) (.int .i64 t476)) (fun _ hk => hk.2) (.int .i64 t477)) (fun _ hk => hk.2) (.slice Ao60 t478.length co60)) (fun _ h_ => h_.1)))); (case side2 => exact (Kd.R_reads' HO480.out).2.1); rintro e w61 ⟨v486, rfl, ho0, hb⟩; refine ⟨_, rfl, ?_⟩; have n0_ := As_ (Kd.R_elder' (by (with_reducible repeat (first | apply rA_ | apply rN_ | apply rD_)); exact (Kd.R_mono (Kd.R_far (p := ⟨gb482, 2, none⟩) (Kd.R_far (p := ⟨gb482, 1, none⟩) (Kd.R_far (p := ⟨gb482, 0, none⟩) (Kd.R_types HO_457002.out BK482.out (by decide)) (fun _ hk => hk.2) (.int .i64 t476)) (fun _ hk => hk.2) (.int .i64 t477)) (fun _ hk => hk.2) (.slice Ao60 t478.length co60)) (fun _ h_ => h_.1))) (Kd.R_base ho0) hb); have n1_ := As_ (Kd.R_elder' (by (with_reducible repeat (first | apply rA_ | apply rN_ | apply rD_)); exact (Kd.R_mono (Kd.R_far (p := ⟨gb482, 2, none⟩) (Kd.R_far (p := ⟨gb482, 1, none⟩) (Kd.R_far (p := ⟨gb482, 0, none⟩) (Kd.R_types HO_464002.out BK482.out (by decide)) (fun _ hk => hk.2) (.int .i64 t476)) (fun _ hk => hk.2) (.int .i64 t477)) (fun _ hk => hk.2) (.slice Ao60 t478.length co60)) (fun _ h_ => h_.1))) (Kd.R_base ho0) hb); have n2_ := As_ (Kd.R_elder' (by (with_reducible repeat (first | apply rA_ | apply rN_ | apply rD_)); exact (Kd.R_mono (Kd.R_far (p := ⟨gb482, 2, none⟩) (Kd.R_far (p := ⟨gb482, 1, none⟩) (Kd.R_far (p := ⟨gb482, 0, none⟩) (Kd.R_types HO_471002.out BK482.out (by decide)) (fun _ hk => hk.2) (.int .i64 t476)) (fun _ hk => hk.2) (.int .i64 t477)) (fun _ hk => hk.2) (.slice Ao60 t478.length co60)) (fun _ h_ => h_.1))) (Kd.R_base ho0) hb); have n3_ := As_ (Kd.R_elder' (by (with_reducible repeat (first | apply rA_ | apply rN_ | apply rD_)); exact (Kd.R_mono (Kd.R_far (p := ⟨gb482, 2, none⟩) (Kd.R_far (p := ⟨gb482, 1, none⟩) (Kd.R_far (p := ⟨gb482, 0, none⟩) (Kd.R_types HO480.out BK482.out (by decide)) (fun _ hk => hk.2) (.int .i64 t476)) (fun _ hk => hk.2) (.int .i64 t477)) (fun _ hk => hk.2) (.slice Ao60 t478.length co60)) (fun _ h_ => h_.1))) (Kd.R_base ho0) hb); have HO487 := As_ (Kd.R_lower (Kd.R_new' (Kd.R_new' (Kd.R_new' (Kd.R_new' ho0 (Kd.R_lt (by (with_reducible repeat (first | apply rA_ | apply rN_ | apply rD_)); exact (Kd.R_mono (Kd.R_far (p := ⟨gb482, 2, none⟩) (Kd.R_far (p := ⟨gb482, 1, none⟩) (Kd.R_far (p := ⟨gb482, 0, none⟩) (Kd.R_types HO_457002.out BK482.out (by decide)) (fun _ hk => hk.2) (.int .i64 t476)) (fun _ hk => hk.2) (.int .i64 t477)) (fun _ hk => hk.2) (.slice Ao60 t478.length co60)) (fun _ h_ => h_.1))))) (Kd.R_lt (by (with_reducible repeat (first | apply rA_ | apply rN_ | apply rD_)); exact (Kd.R_mono (Kd.R_far (p := ⟨gb482, 2, none⟩) (Kd.R_far (p := ⟨gb482, 1, none⟩) (Kd.R_far (p := ⟨gb482, 0, none⟩) (Kd.R_types HO_464002.out BK482.out (by decide)) (fun _ hk => hk.2) (.int .i64 t476)) (fun _ hk => hk.2) (.int .i64 t477)) (fun _ hk => hk.2) (.slice Ao60 t478.length co60)) (fun _ h_ => h_.1))))) (Kd.R_lt (by (with_reducible repeat (first | apply rA_ | apply rN_ | apply rD_)); exact (Kd.R_mono (Kd.R_far (p := ⟨gb482, 2, none⟩) (Kd.R_far (p := ⟨gb482, 1, none⟩) (Kd.R_far (p := ⟨gb482, 0, none⟩) (Kd.R_types HO_471002.out BK482.out (by decide)) (fun _ hk => hk.2) (.int .i64 t476)) (fun _ hk => hk.2) (.int .i64 t477)) (fun _ hk => hk.2) (.slice Ao60 t478.length co60)) (fun _ h_ => h_.1))))) (Kd.R_lt (by (with_reducible repeat (first | apply rA_ | apply rN_ | apply rD_)); exact (Kd.R_mono (Kd.R_far (p := ⟨gb482, 2, none⟩) (Kd.R_far (p := ⟨gb482, 1, none⟩) (Kd.R_far (p := ⟨gb482, 0, none⟩) (Kd.R_types HO480.out BK482.out (by decide)) (fun _ hk => hk.2) (.int .i64 t476)) (fun _ hk => hk.2) (.int .i64 t477)) (fun _ hk => hk.2) (.slice Ao60 t478.length co60)) (fun _ h_ => h_.1))))) (below_size (by repeat (first | (with_reducible first | exact HB.out | apply bA_ | apply bN_ | apply bD_ | refine bS_ ?_ GE456.out | refine bS_ ?_ GE463.out | refine bS_ ?_ GE470.out | refine bS_ ?_ GE482.out) | exact HB.out)))); replace BK456 := As_ (blk_below (g := gb456) (o := .cells #[.int .i64 t449, .int .i64 t450, .slice Ao13 t451.length co13] 24 (0, 0)) (by (with_reducible repeat (first | apply kN_ | apply kD_ | apply kA_)); refine blk_far ?_ NB456_482.out _; (with_reducible repeat (first | apply kN_ | apply kD_ | apply kA_)); refine blk_far ?_ NB456_482.out _; (with_reducible repeat (first | apply kN_ | apply kD_ | apply kA_)); refine blk_far ?_ NB456_482.out _; (with_reducible repeat (first | apply kN_ | apply kD_ | apply kA_)); exact BK456.out) hb); replace BK463 := As_ (blk_below (g := gb463) (o := .cells #[.int .i64 t457, .int .i64 t458, .slice Ao18 t459.length co18] 24 (0, 0)) (by (with_reducible repeat (first | apply kN_ | apply kD_ | apply kA_)); refine blk_far ?_ NB463_482.out _; (with_reducible repeat (first | apply kN_ | apply kD_ | apply kA_)); refine blk_far ?_ NB463_482.out _; (with_reducible repeat (first | apply kN_ | apply kD_ | apply kA_)); refine blk_far ?_ NB463_482.out _; (with_reducible repeat (first | apply kN_ | apply kD_ | apply kA_)); exact BK463.out) hb); replace BK470 := As_ (blk_below (g := gb470) (o := .cells #[.int .i64 t464, .int .i64 t465, .slice Ao25 t466.length co25] 24 (0, 0)) (by (with_reducible repeat (first | apply kN_ | apply kD_ | apply kA_)); refine blk_far ?_ NB470_482.out _; (with_reducible repeat (first | apply kN_ | apply kD_ | apply kA_)); refine blk_far ?_ NB470_482.out _; (with_reducible repeat (first | apply kN_ | apply kD_ | apply kA_)); refine blk_far ?_ NB470_482.out _; (with_reducible repeat (first | apply kN_ | apply kD_ | apply kA_)); exact BK470.out) hb); replace BK482 := As_ (blk_below (g := gb482) (o := .cells #[.int .i64 t476, .int .i64 t477, .slice Ao60 t478.length co60] 24 (0, 0)) (by (with_reducible repeat (first | apply kN_ | apply kD_ | apply kA_)); refine blk_put (cs := #[.int .i64 t476, .int .i64 t477, .slice none 0 0]) ?_ 2 _ rfl; (with_reducible repeat (first | apply kN_ | apply kD_ | apply kA_)); refine blk_put (cs := #[.int .i64 t476, .int .i64 0, .slice none 0 0]) ?_ 1 _ rfl; (with_reducible repeat (first | apply kN_ | apply kD_ | apply kA_)); refine blk_put (cs := #[.int .i64 0, .int .i64 0, .slice none 0 0]) ?_ 0 _ rfl; (with_reducible repeat (first | apply kN_ | apply kD_ | apply kA_)); exact BK482.out) hb); replace HB := As_ (below_step (by repeat (first | (with_reducible first | exact HB.out | apply bA_ | apply bN_ | apply bD_ | refine bS_ ?_ GE456.out | refine bS_ ?_ GE463.out | refine bS_ ?_ GE470.out | refine bS_ ?_ GE482.out) | exact HB.out)) hb); clear HO_457002 HO_464002 HO_471002 HO480; have HO_457002 := n0_; have HO_464002 := n1_; have HO_471002 := n2_; have HO480 := n3_; clear n0_ n1_ n2_ n3_; (try clear hb); (try clear hb2); (try clear hk); (try clear hi); (try clear ho0)) | ((with_reducible refine gate_dst (N := 12) rfl ?_); refine box_event ?hg (N := 12) ?hd (cs := #[.int .i64 0, .int .i64 0, .slice none 0 0]) (t := 24) ?hr ?_; (case hd => rfl); (case hg => rfl); (case hr => first | (go_simp; done) | (go_simp; rfl)); intro gb489 hg w62 hbox hb; have n0_ := As_ (Kd.R_below (by (with_reducible repeat (first | apply rA_ | apply rN_ | apply rD_)); exact HO_457002.out) hb); have n1_ := As_ (Kd.R_below (by (with_reducible repeat (first | apply rA_ | apply rN_ | apply rD_)); exact HO_464002.out) hb); have n2_ := As_ (Kd.R_below (by (with_reducible repeat (first | apply rA_ | apply rN_ | apply rD_)); exact HO_471002.out) hb); have n3_ := As_ (Kd.R_below (by (with_reducible repeat (first | apply rA_ | apply rN_ | apply rD_)); exact HO480.out) hb); have n4_ := As_ (Kd.R_below (by (with_reducible repeat (first | apply rA_ | apply rN_ | apply rD_)); exact HO487.out) hb); have n5_ := As_ (blk_below (g := gb456) (o := .cells #[.int .i64 t449, .int .i64 t450, .slice Ao13 t451.length co13] 24 (0, 0)) (by (with_reducible repeat (first | apply kN_ | apply kD_ | apply kA_)); exact BK456.out) hb); have n6_ := As_ (blk_below (g := gb463) (o := .cells #[.int .i64 t457, .int .i64 t458, .slice Ao18 t459.length co18] 24 (0, 0)) (by (with_reducible repeat (first | apply kN_ | apply kD_ | apply kA_)); exact BK463.out) hb); have n7_ := As_ (blk_below (g := gb470) (o := .cells #[.int .i64 t464, .int .i64 t465, .slice Ao25 t466.length co25] 24 (0, 0)) (by (with_reducible repeat (first | apply kN_ | apply kD_ | apply kA_)); exact BK470.out) hb); have n8_ := As_ (blk_below (g := gb482) (o := .cells #[.int .i64 t476, .int .i64 t477, .slice Ao60 t478.length co60] 24 (0, 0)) (by (with_reducible repeat (first | apply kN_ | apply kD_ | apply kA_)); exact BK482.out) hb); have n9_ := As_ (below_step (by repeat (first | (with_reducible first | exact HB.out | apply bA_ | apply bN_ | apply bD_ | refine bS_ ?_ GE456.out | refine bS_ ?_ GE463.out | refine bS_ ?_ GE470.out | refine bS_ ?_ GE482.out) | exact HB.out)) hb); have n10_ := As_ (hbox); have n11_ := As_ ((by rw [hg]; exact (below_size (by repeat (first | (with_reducible first | exact HB.out | apply bA_ | apply bN_ | apply bD_ | refine bS_ ?_ GE456.out | refine bS_ ?_ GE463.out | refine bS_ ?_ GE470.out | refine bS_ ?_ GE482.out) | exact HB.out))) : w.heap.size ≤ gb489)); have n12_ := As_ ((by rw [hg]; exact (below_size (by repeat (first | (with_reducible first | exact HB.out | apply bA_ | apply bN_ | apply bD_ | refine bS_ ?_ GE456.out | refine bS_ ?_ GE463.out | refine bS_ ?_ GE470.out | refine bS_ ?_ GE482.out) | exact HB.out))) : w.heap.size ≤ gb489)); have n13_ := As_ ((by rw [hg]; exact Nat.ne_of_lt (blk_lt (g := gb456) (o := .cells #[.int .i64 t449, .int .i64 t450, .slice Ao13 t451.length co13] 24 (0, 0)) (by (with_reducible repeat (first | apply kN_ | apply kD_ | apply kA_)); exact BK456.out)) : gb456 ≠ gb489)); have n14_ := As_ ((by rw [hg]; exact Nat.ne_of_gt (blk_lt (g := gb456) (o := .cells #[.int .i64 t449, .int .i64 t450, .slice Ao13 t451.length co13] 24 (0, 0)) (by (with_reducible repeat (first | apply kN_ | apply kD_ | apply kA_)); exact BK456.out)) : gb489 ≠ gb456)); have n15_ := As_ ((by rw [hg]; exact Nat.ne_of_lt (blk_lt (g := gb463) (o := .cells #[.int .i64 t457, .int .i64 t458, .slice Ao18 t459.length co18] 24 (0, 0)) (by (with_reducible repeat (first | apply kN_ | apply kD_ | apply kA_)); exact BK463.out)) : gb463 ≠ gb489)); have n16_ := As_ ((by rw [hg]; exact Nat.ne_of_gt (blk_lt (g := gb463) (o := .cells #[.int .i64 t457, .int .i64 t458, .slice Ao18 t459.length co18] 24 (0, 0)) (by (with_reducible repeat (first | apply kN_ | apply kD_ | apply kA_)); exact BK463.out)) : gb489 ≠ gb463)); have n17_ := As_ ((by rw [hg]; exact Nat.ne_of_lt (blk_lt (g := gb470) (o := .cells #[.int .i64 t464, .int .i64 t465, .slice Ao25 t466.length co25] 24 (0, 0)) (by (with_reducible repeat (first | apply kN_ | apply kD_ | apply kA_)); exact BK470.out)) : gb470 ≠ gb489)); have n18_ := As_ ((by rw [hg]; exact Nat.ne_of_gt (blk_lt (g := gb470) (o := .cells #[.int .i64 t464, .int .i64 t465, .slice Ao25 t466.length co25] 24 (0, 0)) (by (with_reducible repeat (first | apply kN_ | apply kD_ | apply kA_)); exact BK470.out)) : gb489 ≠ gb470)); have n19_ := As_ ((by rw [hg]; exact Nat.ne_of_lt (blk_lt (g := gb482) (o := .cells #[.int .i64 t476, .int .i64 t477, .slice Ao60 t478.length co60] 24 (0, 0)) (by (with_reducible repeat (first | apply kN_ | apply kD_ | apply kA_)); exact BK482.out)) : gb482 ≠ gb489)); have n20_ := As_ ((by rw [hg]; exact Nat.ne_of_gt (blk_lt (g := gb482) (o := .cells #[.int .i64 t476, .int .i64 t477, .slice Ao60 t478.length co60] 24 (0, 0)) (by (with_reducible repeat (first | apply kN_ | apply kD_ | apply kA_)); exact BK482.out)) : gb489 ≠ gb482)); clear HO_457002 HO_464002 HO_471002 HO480 HO487 BK456 BK463 BK470 BK482 HB; have HO_457002 := n0_; have HO_464002 := n1_; have HO_471002 := n2_; have HO480 := n3_; have HO487 := n4_; have BK456 := n5_; have BK463 := n6_; have BK470 := n7_; have BK482 := n8_; have HB := n9_; have BK489 := n10_; have GW489 := n11_; have GE489 := n12_; have NB456_489 := n13_; have NB489_456 := n14_; have NB463_489 := n15_; have NB489_463 := n16_; have NB470_489 := n17_; have NB489_470 := n18_; have NB482_489 := n19_; have NB489_482 := n20_; clear n0_ n1_ n2_ n3_ n4_ n5_ n6_ n7_ n8_ n9_ n10_ n11_ n12_ n13_ n14_ n15_ n16_ n17_ n18_ n19_ n20_ hb hbox hg; have hnb63 := NB489_456.out; have hnc63 := NB456_489.out; have hnb64 := NB489_463.out; have hnc64 := NB463_489.out; have hnb65 := NB489_470.out; have hnc65 := NB470_489.out; have hnb66 := NB489_482.out; have hnc66 := NB482_489.out; obtain ⟨hcz67_0, hcz67_1, hcz67_2, hfz67_0, hfz67_1, hfz67_2⟩ := blk_all3 BK489.out; obtain ⟨Ao68, co68, eo68⟩ := Kd.R_slice HO487.out; subst eo68))
                      have n0_ : Aside0 (Kd.R k48 48 (((w62.setCell ⟨gb489, 0, none⟩ (.int .i64 t483)).setCell ⟨gb489, 1, none⟩ (.int .i64 t484)).setCell ⟨gb489, 2, none⟩ (.slice Ao68 t485.length co68)) w.heap.size (fun k_ => some k_ ≠ (.slice Ao18 t459.length co18 : Value).ownBlock ∧ some k_ ≠ (.slice Ao25 t466.length co25 : Value).ownBlock ∧ some k_ ≠ (.slice Ao60 t478.length co60 : Value).ownBlock ∧ some k_ ≠ (.slice Ao68 t485.length co68 : Value).ownBlock) (.slice Ao13 t451.length co13) t451) := ⟨by (with_reducible repeat (first | apply rA_ | apply rN_ | apply rD_)); exact Kd.R_mono (Kd.R_far (p := ⟨gb489, 2, none⟩) (Kd.R_far (p := ⟨gb489, 1, none⟩) (Kd.R_far (p := ⟨gb489, 0, none⟩) (Kd.R_types HO_457002.out BK489.out (by decide)) (fun _ hk => hk.2) (.int .i64 t483)) (fun _ hk => hk.2) (.int .i64 t484)) (fun _ hk => hk.2) (.slice Ao68 t485.length co68)) (fun _ hk => ⟨hk.1.1.1.1, ⟨hk.1.1.1.2, ⟨hk.1.1.2, hk.1.2⟩⟩⟩)⟩
                      have n1_ : Aside0 (Kd.R k48 48 (((w62.setCell ⟨gb489, 0, none⟩ (.int .i64 t483)).setCell ⟨gb489, 1, none⟩ (.int .i64 t484)).setCell ⟨gb489, 2, none⟩ (.slice Ao68 t485.length co68)) w.heap.size (fun k_ => some k_ ≠ (.slice Ao13 t451.length co13 : Value).ownBlock ∧ some k_ ≠ (.slice Ao25 t466.length co25 : Value).ownBlock ∧ some k_ ≠ (.slice Ao60 t478.length co60 : Value).ownBlock ∧ some k_ ≠ (.slice Ao68 t485.length co68 : Value).ownBlock) (.slice Ao18 t459.length co18) t459) := ⟨by (with_reducible repeat (first | apply rA_ | apply rN_ | apply rD_)); exact Kd.R_mono (Kd.R_far (p := ⟨gb489, 2, none⟩) (Kd.R_far (p := ⟨gb489, 1, none⟩) (Kd.R_far (p := ⟨gb489, 0, none⟩) (Kd.R_types HO_464002.out BK489.out (by decide)) (fun _ hk => hk.2) (.int .i64 t483)) (fun _ hk => hk.2) (.int .i64 t484)) (fun _ hk => hk.2) (.slice Ao68 t485.length co68)) (fun _ hk => ⟨hk.1.1.1.1, ⟨hk.1.1.1.2, ⟨hk.1.1.2, hk.1.2⟩⟩⟩)⟩
                      have n2_ : Aside0 (Kd.R k48 48 (((w62.setCell ⟨gb489, 0, none⟩ (.int .i64 t483)).setCell ⟨gb489, 1, none⟩ (.int .i64 t484)).setCell ⟨gb489, 2, none⟩ (.slice Ao68 t485.length co68)) w.heap.size (fun k_ => some k_ ≠ (.slice Ao13 t451.length co13 : Value).ownBlock ∧ some k_ ≠ (.slice Ao18 t459.length co18 : Value).ownBlock ∧ some k_ ≠ (.slice Ao60 t478.length co60 : Value).ownBlock ∧ some k_ ≠ (.slice Ao68 t485.length co68 : Value).ownBlock) (.slice Ao25 t466.length co25) t466) := ⟨by (with_reducible repeat (first | apply rA_ | apply rN_ | apply rD_)); exact Kd.R_mono (Kd.R_far (p := ⟨gb489, 2, none⟩) (Kd.R_far (p := ⟨gb489, 1, none⟩) (Kd.R_far (p := ⟨gb489, 0, none⟩) (Kd.R_types HO_471002.out BK489.out (by decide)) (fun _ hk => hk.2) (.int .i64 t483)) (fun _ hk => hk.2) (.int .i64 t484)) (fun _ hk => hk.2) (.slice Ao68 t485.length co68)) (fun _ hk => ⟨hk.1.1.1.1, ⟨hk.1.1.1.2, ⟨hk.1.1.2, hk.1.2⟩⟩⟩)⟩
                      have n3_ : Aside0 (Kd.R k48 48 (((w62.setCell ⟨gb489, 0, none⟩ (.int .i64 t483)).setCell ⟨gb489, 1, none⟩ (.int .i64 t484)).setCell ⟨gb489, 2, none⟩ (.slice Ao68 t485.length co68)) w.heap.size (fun k_ => some k_ ≠ (.slice Ao13 t451.length co13 : Value).ownBlock ∧ some k_ ≠ (.slice Ao18 t459.length co18 : Value).ownBlock ∧ some k_ ≠ (.slice Ao25 t466.length co25 : Value).ownBlock ∧ some k_ ≠ (.slice Ao68 t485.length co68 : Value).ownBlock) (.slice Ao60 t478.length co60) t478) := ⟨by (with_reducible repeat (first | apply rA_ | apply rN_ | apply rD_)); exact Kd.R_mono (Kd.R_far (p := ⟨gb489, 2, none⟩) (Kd.R_far (p := ⟨gb489, 1, none⟩) (Kd.R_far (p := ⟨gb489, 0, none⟩) (Kd.R_types HO480.out BK489.out (by decide)) (fun _ hk => hk.2) (.int .i64 t483)) (fun _ hk => hk.2) (.int .i64 t484)) (fun _ hk => hk.2) (.slice Ao68 t485.length co68)) (fun _ hk => ⟨hk.1.1.1.1.2, ⟨hk.1.1.1.2, ⟨hk.1.1.2, hk.1.2⟩⟩⟩)⟩
                      have n4_ : Aside0 (Kd.R k48 48 (((w62.setCell ⟨gb489, 0, none⟩ (.int .i64 t483)).setCell ⟨gb489, 1, none⟩ (.int .i64 t484)).setCell ⟨gb489, 2, none⟩ (.slice Ao68 t485.length co68)) w.heap.size (fun k_ => some k_ ≠ (.slice Ao13 t451.length co13 : Value).ownBlock ∧ some k_ ≠ (.slice Ao18 t459.length co18 : Value).ownBlock ∧ some k_ ≠ (.slice Ao25 t466.length co25 : Value).ownBlock ∧ some k_ ≠ (.slice Ao60 t478.length co60 : Value).ownBlock) (.slice Ao68 t485.length co68) t485) := ⟨by (with_reducible repeat (first | apply rA_ | apply rN_ | apply rD_)); exact Kd.R_mono (Kd.R_far (p := ⟨gb489, 2, none⟩) (Kd.R_far (p := ⟨gb489, 1, none⟩) (Kd.R_far (p := ⟨gb489, 0, none⟩) (Kd.R_types HO487.out BK489.out (by decide)) (fun _ hk => hk.2) (.int .i64 t483)) (fun _ hk => hk.2) (.int .i64 t484)) (fun _ hk => hk.2) (.slice Ao68 t485.length co68)) (fun _ hk => ⟨hk.1.1.1.1.2, ⟨hk.1.1.1.2, ⟨hk.1.1.2, hk.1.2⟩⟩⟩)⟩
                      have n5_ : Aside0 ((((w62.setCell ⟨gb489, 0, none⟩ (.int .i64 t483)).setCell ⟨gb489, 1, none⟩ (.int .i64 t484)).setCell ⟨gb489, 2, none⟩ (.slice Ao68 t485.length co68)).heap[gb456]? = some (.cells #[.int .i64 t449, .int .i64 t450, .slice Ao13 t451.length co13] 24 (0, 0))) := ⟨by (with_reducible repeat (first | apply kN_ | apply kD_ | apply kA_)); refine blk_far ?_ NB456_489.out _; (with_reducible repeat (first | apply kN_ | apply kD_ | apply kA_)); refine blk_far ?_ NB456_489.out _; (with_reducible repeat (first | apply kN_ | apply kD_ | apply kA_)); refine blk_far ?_ NB456_489.out _; (with_reducible repeat (first | apply kN_ | apply kD_ | apply kA_)); exact BK456.out⟩
                      have n6_ : Aside0 ((((w62.setCell ⟨gb489, 0, none⟩ (.int .i64 t483)).setCell ⟨gb489, 1, none⟩ (.int .i64 t484)).setCell ⟨gb489, 2, none⟩ (.slice Ao68 t485.length co68)).heap[gb463]? = some (.cells #[.int .i64 t457, .int .i64 t458, .slice Ao18 t459.length co18] 24 (0, 0))) := ⟨by (with_reducible repeat (first | apply kN_ | apply kD_ | apply kA_)); refine blk_far ?_ NB463_489.out _; (with_reducible repeat (first | apply kN_ | apply kD_ | apply kA_)); refine blk_far ?_ NB463_489.out _; (with_reducible repeat (first | apply kN_ | apply kD_ | apply kA_)); refine blk_far ?_ NB463_489.out _; (with_reducible repeat (first | apply kN_ | apply kD_ | apply kA_)); exact BK463.out⟩
                      have n7_ : Aside0 ((((w62.setCell ⟨gb489, 0, none⟩ (.int .i64 t483)).setCell ⟨gb489, 1, none⟩ (.int .i64 t484)).setCell ⟨gb489, 2, none⟩ (.slice Ao68 t485.length co68)).heap[gb470]? = some (.cells #[.int .i64 t464, .int .i64 t465, .slice Ao25 t466.length co25] 24 (0, 0))) := ⟨by (with_reducible repeat (first | apply kN_ | apply kD_ | apply kA_)); refine blk_far ?_ NB470_489.out _; (with_reducible repeat (first | apply kN_ | apply kD_ | apply kA_)); refine blk_far ?_ NB470_489.out _; (with_reducible repeat (first | apply kN_ | apply kD_ | apply kA_)); refine blk_far ?_ NB470_489.out _; (with_reducible repeat (first | apply kN_ | apply kD_ | apply kA_)); exact BK470.out⟩
                      have n8_ : Aside0 ((((w62.setCell ⟨gb489, 0, none⟩ (.int .i64 t483)).setCell ⟨gb489, 1, none⟩ (.int .i64 t484)).setCell ⟨gb489, 2, none⟩ (.slice Ao68 t485.length co68)).heap[gb482]? = some (.cells #[.int .i64 t476, .int .i64 t477, .slice Ao60 t478.length co60] 24 (0, 0))) := ⟨by (with_reducible repeat (first | apply kN_ | apply kD_ | apply kA_)); refine blk_far ?_ NB482_489.out _; (with_reducible repeat (first | apply kN_ | apply kD_ | apply kA_)); refine blk_far ?_ NB482_489.out _; (with_reducible repeat (first | apply kN_ | apply kD_ | apply kA_)); refine blk_far ?_ NB482_489.out _; (with_reducible repeat (first | apply kN_ | apply kD_ | apply kA_)); exact BK482.out⟩
                      have n9_ : Aside0 ((((w62.setCell ⟨gb489, 0, none⟩ (.int .i64 t483)).setCell ⟨gb489, 1, none⟩ (.int .i64 t484)).setCell ⟨gb489, 2, none⟩ (.slice Ao68 t485.length co68)).heap[gb489]? = some (.cells #[.int .i64 t483, .int .i64 t484, .slice Ao68 t485.length co68] 24 (0, 0))) := ⟨by (with_reducible repeat (first | apply kN_ | apply kD_ | apply kA_)); refine blk_put (cs := #[.int .i64 t483, .int .i64 t484, .slice none 0 0]) ?_ 2 _ rfl; (with_reducible repeat (first | apply kN_ | apply kD_ | apply kA_)); refine blk_put (cs := #[.int .i64 t483, .int .i64 0, .slice none 0 0]) ?_ 1 _ rfl; (with_reducible repeat (first | apply kN_ | apply kD_ | apply kA_)); refine blk_put (cs := #[.int .i64 0, .int .i64 0, .slice none 0 0]) ?_ 0 _ rfl; (with_reducible repeat (first | apply kN_ | apply kD_ | apply kA_)); exact BK489.out⟩
                      have n10_ : Aside0 (Below w.heap.size w (((w62.setCell ⟨gb489, 0, none⟩ (.int .i64 t483)).setCell ⟨gb489, 1, none⟩ (.int .i64 t484)).setCell ⟨gb489, 2, none⟩ (.slice Ao68 t485.length co68))) := ⟨by repeat (first | (with_reducible first | exact HB.out | apply bA_ | apply bN_ | apply bD_ | refine bS_ ?_ GE456.out | refine bS_ ?_ GE463.out | refine bS_ ?_ GE470.out | refine bS_ ?_ GE482.out | refine bS_ ?_ GE489.out) | exact HB.out)⟩
                      (try clear HO_457002)
                      (try clear HO_464002)
                      (try clear HO_471002)
                      (try clear HO480)
                      (try clear HO487)
                      (try clear BK456)
                      (try clear BK463)
                      (try clear BK470)
                      (try clear BK482)
                      (try clear BK489)
                      (try clear HB)
                      generalize (((w62.setCell ⟨gb489, 0, none⟩ (.int .i64 t483)).setCell ⟨gb489, 1, none⟩ (.int .i64 t484)).setCell ⟨gb489, 2, none⟩ (.slice Ao68 t485.length co68)) = w69 at n0_ n1_ n2_ n3_ n4_ n5_ n6_ n7_ n8_ n9_ n10_ ⊢
                      have HO_457002 := n0_
                      have HO_464002 := n1_
                      have HO_471002 := n2_
                      have HO480 := n3_
                      have HO487 := n4_
                      have BK456 := n5_
                      have BK463 := n6_
                      have BK470 := n7_
                      have BK482 := n8_
                      have BK489 := n9_
                      have HB := n10_
                      clear n0_ n1_ n2_ n3_ n4_ n5_ n6_ n7_ n8_ n9_ n10_
                      replace HO_457002 := As_ (Kd.R_drew HO_457002.out)
                      replace HO_464002 := As_ (Kd.R_drew HO_464002.out)
                      replace HO_471002 := As_ (Kd.R_drew HO_471002.out)
                      replace HO480 := As_ (Kd.R_drew HO480.out)
                      replace HO487 := As_ (Kd.R_drew HO487.out)
                      replace BK456 := As_ (blk_drew BK456.out)
                      replace BK463 := As_ (blk_drew BK463.out)
                      replace BK470 := As_ (blk_drew BK470.out)
                      replace BK482 := As_ (blk_drew BK482.out)
                      replace BK489 := As_ (blk_drew BK489.out)
                      replace HB := As_ (below_drew1 HB.out)
                      refine start_ (n := 21) (S := fun w' => w'.cell? ⟨gb489, 0, none⟩ = some (.int .i64 t483) ∧ w'.cell? ⟨gb489, 1, none⟩ = some (.int .i64 t484) ∧ w'.cell? ⟨gb489, 2, none⟩ = some (.slice Ao68 t485.length co68) ∧ w'.cell? ⟨gb456, 0, none⟩ = some (.int .i64 t449) ∧ w'.cell? ⟨gb456, 1, none⟩ = some (.int .i64 t450) ∧ w'.cell? ⟨gb456, 2, none⟩ = some (.slice Ao13 t451.length co13)) (ds := []) #[false, false, false, false, false, false, false, false, false, false, false, false, false, false, false, false, false, false, false, false, false] (by kernel_rfl) rfl rfl ⟨(blk_cell BK489.out 0).trans rfl, (blk_cell BK489.out 1).trans rfl, (blk_cell BK489.out 2).trans rfl, (blk_cell BK456.out 0).trans rfl, (blk_cell BK456.out 1).trans rfl, (blk_cell BK456.out 2).trans rfl⟩ (fun hHeld => ?_); refine with_tabW laws_FnSpent.tab16 laws_FnSpent.bits16 (fun HT_ HW_ => ?_)
                      generalize w69.drew = w70 at HO_457002 HO_464002 HO_471002 HO480 HO487 BK456 BK463 BK470 BK482 BK489 HB hHeld ⊢
                      refine pure_ (i := 0) (N := some 93) (v := ?_) (a' := ?_) #[true, false, false, false, false, false, false, false, false, false, false, false, false, false, false, false, false, false, false, false, false] rfl rfl (any_of HT_.out (by kernel_rfl)) (fun _ _ _ h => h) (Or.inl ⟨by rfl, ?_⟩) ?_ ?_
                      rotate_left
                      · intro w'
                        go_simp
                        with_reducible rfl
                      rotate_left
                      · simp only [Act.put, List.setIfInBounds_toArray, List.set_cons_zero, List.set_cons_succ, i64_w, i32_w]
                        rfl
                      refine pure_ (i := 1) (N := some 94) (v := ?_) (a' := ?_) #[true, true, false, false, false, false, false, false, false, false, false, false, false, false, false, false, false, false, false, false, false] rfl rfl (any_of HT_.out (by kernel_rfl)) (fun _ _ _ h => h) (Or.inl ⟨by rfl, ?_⟩) ?_ ?_
                      rotate_left
                      · intro w'
                        go_simp
                        with_reducible rfl
                      rotate_left
                      · simp only [Act.put, List.setIfInBounds_toArray, List.set_cons_zero, List.set_cons_succ, i64_w, i32_w]
                        rfl
                      refine pure_ (i := 2) (N := some 95) (v := ?_) (a' := ?_) #[true, true, true, false, false, false, false, false, false, false, false, false, false, false, false, false, false, false, false, false, false] rfl rfl (any_of HT_.out (by kernel_rfl)) (fun _ _ _ h => h) (Or.inl ⟨by rfl, ?_⟩) ?_ ?_
                      rotate_left
                      · intro w'
                        go_simp
                        with_reducible rfl
                      rotate_left
                      · simp only [Act.put, List.setIfInBounds_toArray, List.set_cons_zero, List.set_cons_succ, i64_w, i32_w]
                        rfl
                      refine pure_ (i := 3) (N := some 96) (v := ?_) (a' := ?_) #[true, true, true, true, false, false, false, false, false, false, false, false, false, false, false, false, false, false, false, false, false] rfl rfl (any_of HT_.out (by kernel_rfl)) (fun _ _ _ h => h) (Or.inl ⟨by rfl, ?_⟩) ?_ ?_
                      rotate_left
                      · intro w'
                        go_simp
                        with_reducible rfl
                      rotate_left
                      · simp only [Act.put, List.setIfInBounds_toArray, List.set_cons_zero, List.set_cons_succ, i64_w, i32_w]
                        rfl
                      refine pure_ (i := 4) (N := some 97) (v := ?_) (a' := ?_) #[true, true, true, true, true, false, false, false, false, false, false, false, false, false, false, false, false, false, false, false, false] rfl rfl (any_of HT_.out (by kernel_rfl)) (fun _ _ _ h => h) (Or.inl ⟨by rfl, ?_⟩) ?_ ?_
                      rotate_left
                      · intro w'
                        go_simp
                        with_reducible rfl
                      rotate_left
                      · simp only [Act.put, List.setIfInBounds_toArray, List.set_cons_zero, List.set_cons_succ, i64_w, i32_w]
                        rfl
                      refine pure_ (i := 5) (N := some 98) (v := ?_) (a' := ?_) #[true, true, true, true, true, true, false, false, false, false, false, false, false, false, false, false, false, false, false, false, false] rfl rfl (any_of HT_.out (by kernel_rfl)) (fun _ _ _ h => h) (Or.inl ⟨by rfl, ?_⟩) ?_ ?_
                      rotate_left
                      · intro w'
                        go_simp
                        with_reducible rfl
                      rotate_left
                      · simp only [Act.put, List.setIfInBounds_toArray, List.set_cons_zero, List.set_cons_succ, i64_w, i32_w]
                        rfl
                      refine pure_ (i := 7) (N := some 100) (v := ?_) (a' := ?_) #[true, true, true, true, true, true, false, true, false, false, false, false, false, false, false, false, false, false, false, false, false] rfl rfl (any_of HT_.out (by kernel_rfl)) (fun _ _ _ h => h) (Or.inl ⟨by rfl, ?_⟩) ?_ ?_
                      rotate_left
                      · intro w'
                        go_simp
                        with_reducible rfl
                      rotate_left
                      · simp only [Act.put, List.setIfInBounds_toArray, List.set_cons_zero, List.set_cons_succ, i64_w, i32_w]
                        rfl
                      refine take_ (i := 6) (N := some 99) (v := ?_) (a' := ?_) #[true, true, true, true, true, true, true, true, false, false, false, false, false, false, false, false, false, false, false, false, false] rfl rfl (take_ofW HT_.out HW_.out (by kernel_rfl)) (fun _ _ _ h => h) (Or.inl ⟨by rfl, ?_⟩) hHeld ?_ ?_
                      rotate_left
                      · rintro w' ⟨s0, s1, s2, s3, s4, s5⟩
                        go_simp
                        with_reducible rfl
                      rotate_left
                      · simp only [Act.put, List.setIfInBounds_toArray, List.set_cons_zero, List.set_cons_succ, i64_w, i32_w]
                        rfl
                      refine take_ (i := 8) (N := some 101) (v := ?_) (a' := ?_) #[true, true, true, true, true, true, true, true, true, false, false, false, false, false, false, false, false, false, false, false, false] rfl rfl (take_ofW HT_.out HW_.out (by kernel_rfl)) (fun _ _ _ h => h) (Or.inl ⟨by rfl, ?_⟩) hHeld ?_ ?_
                      rotate_left
                      · rintro w' ⟨s0, s1, s2, s3, s4, s5⟩
                        go_simp
                        with_reducible rfl
                      rotate_left
                      · simp only [Act.put, List.setIfInBounds_toArray, List.set_cons_zero, List.set_cons_succ, i64_w, i32_w]
                        rfl
                      refine pure_ (i := 9) (N := some 102) (v := ?_) (a' := ?_) #[true, true, true, true, true, true, true, true, true, true, false, false, false, false, false, false, false, false, false, false, false] rfl rfl (any_of HT_.out (by kernel_rfl)) (fun _ _ _ h => h) (Or.inl ⟨by rfl, ?_⟩) ?_ ?_
                      rotate_left
                      · intro w'
                        go_simp
                        with_reducible rfl
                      rotate_left
                      · simp only [Act.put, List.setIfInBounds_toArray, List.set_cons_zero, List.set_cons_succ, i64_w, i32_w]
                        rfl
                      refine pure_ (i := 10) (N := some 103) (v := ?_) (a' := ?_) #[true, true, true, true, true, true, true, true, true, true, true, false, false, false, false, false, false, false, false, false, false] rfl rfl (any_of HT_.out (by kernel_rfl)) (fun _ _ _ h => h) (Or.inl ⟨by rfl, ?_⟩) ?_ ?_
                      rotate_left
                      · intro w'
                        go_simp
                        with_reducible rfl
                      rotate_left
                      · simp only [Act.put, List.setIfInBounds_toArray, List.set_cons_zero, List.set_cons_succ, i64_w, i32_w]
                        rfl
                      refine pure_ (i := 11) (N := some 104) (v := ?_) (a' := ?_) #[true, true, true, true, true, true, true, true, true, true, true, true, false, false, false, false, false, false, false, false, false] rfl rfl (any_of HT_.out (by kernel_rfl)) (fun _ _ _ h => h) (Or.inl ⟨by rfl, ?_⟩) ?_ ?_
                      rotate_left
                      · intro w'
                        go_simp
                        with_reducible rfl
                      rotate_left
                      · simp only [Act.put, List.setIfInBounds_toArray, List.set_cons_zero, List.set_cons_succ, i64_w, i32_w]
                        rfl
                      refine pure_ (i := 13) (N := some 106) (v := ?_) (a' := ?_) #[true, true, true, true, true, true, true, true, true, true, true, true, false, true, false, false, false, false, false, false, false] rfl rfl (any_of HT_.out (by kernel_rfl)) (fun _ _ _ h => h) (Or.inl ⟨by rfl, ?_⟩) ?_ ?_
                      rotate_left
                      · intro w'
                        go_simp
                        with_reducible rfl
                      rotate_left
                      · simp only [Act.put, List.setIfInBounds_toArray, List.set_cons_zero, List.set_cons_succ, i64_w, i32_w]
                        rfl
                      refine pure_ (i := 16) (N := some 109) (v := ?_) (a' := ?_) #[true, true, true, true, true, true, true, true, true, true, true, true, false, true, false, false, true, false, false, false, false] rfl rfl (any_of HT_.out (by kernel_rfl)) (fun _ _ _ h => h) (Or.inl ⟨by rfl, ?_⟩) ?_ ?_
                      rotate_left
                      · intro w'
                        go_simp
                        with_reducible rfl
                      rotate_left
                      · simp only [Act.put, List.setIfInBounds_toArray, List.set_cons_zero, List.set_cons_succ, i64_w, i32_w]
                        rfl
                      refine take_ (i := 12) (N := some 105) (v := ?_) (a' := ?_) #[true, true, true, true, true, true, true, true, true, true, true, true, true, true, false, false, true, false, false, false, false] rfl rfl (take_ofW HT_.out HW_.out (by kernel_rfl)) (fun _ _ _ h => h) (Or.inl ⟨by rfl, ?_⟩) hHeld ?_ ?_
                      rotate_left
                      · rintro w' ⟨s0, s1, s2, s3, s4, s5⟩
                        go_simp
                        with_reducible rfl
                      rotate_left
                      · simp only [Act.put, List.setIfInBounds_toArray, List.set_cons_zero, List.set_cons_succ, i64_w, i32_w]
                        rfl
                      refine take_ (i := 15) (N := some 108) (v := ?_) (a' := ?_) #[true, true, true, true, true, true, true, true, true, true, true, true, true, true, false, true, true, false, false, false, false] rfl rfl (take_ofW HT_.out HW_.out (by kernel_rfl)) (fun _ _ _ h => h) (Or.inl ⟨by rfl, ?_⟩) hHeld ?_ ?_
                      rotate_left
                      · rintro w' ⟨s0, s1, s2, s3, s4, s5⟩
                        go_simp
                        with_reducible rfl
                      rotate_left
                      · simp only [Act.put, List.setIfInBounds_toArray, List.set_cons_zero, List.set_cons_succ, i64_w, i32_w]
                        rfl
                      refine one_ (i := 14) (N := some 107) #[true, true, true, true, true, true, true, true, true, true, true, true, true, true, true, true, true, false, false, false, false] rfl rfl (one_of HT_.out (by kernel_rfl)) (by decide) (fun K hK => ?_)
                      refine goes_ Try.func23 (by kernel_rfl) rfl #[.agg #[.int .i64 t483, .int .i64 t484, .slice Ao68 t485.length co68], .int .i64 t454] (by rfl) rfl rfl (by (try simp only [List.map_toArray, List.map_cons, List.map_nil]); first | done | rfl | (simp only [List.length_drop, List.length_take]; rfl)) ?_
                      with_reducible refine (impl_RoomOf.calls kj8 t483 t484 _ _ t485 t454 t490 _ ?side1 ?side2 A49.out).mono ?_
                      (case side1 => repeat (first | exact (Kd.R_reads' HO487.out).2.2 | (with_reducible first | apply cA_ | apply cN_ | apply cD_)))
                      (case side2 => exact (Kd.R_reads' HO487.out).2.1)
                      rintro e w71 ⟨rfl, hb⟩
                      refine ⟨_, rfl, ?_⟩
                      replace HO_457002 := As_ (Kd.R_below (by (with_reducible repeat (first | apply rA_ | apply rN_ | apply rD_)); exact HO_457002.out) hb)
                      replace HO_464002 := As_ (Kd.R_below (by (with_reducible repeat (first | apply rA_ | apply rN_ | apply rD_)); exact HO_464002.out) hb)
                      replace HO_471002 := As_ (Kd.R_below (by (with_reducible repeat (first | apply rA_ | apply rN_ | apply rD_)); exact HO_471002.out) hb)
                      replace HO480 := As_ (Kd.R_below (by (with_reducible repeat (first | apply rA_ | apply rN_ | apply rD_)); exact HO480.out) hb)
                      replace HO487 := As_ (Kd.R_below (by (with_reducible repeat (first | apply rA_ | apply rN_ | apply rD_)); exact HO487.out) hb)
                      replace BK456 := As_ (blk_below (g := gb456) (o := .cells #[.int .i64 t449, .int .i64 t450, .slice Ao13 t451.length co13] 24 (0, 0)) (by (with_reducible repeat (first | apply kN_ | apply kD_ | apply kA_)); exact BK456.out) hb)
                      replace BK463 := As_ (blk_below (g := gb463) (o := .cells #[.int .i64 t457, .int .i64 t458, .slice Ao18 t459.length co18] 24 (0, 0)) (by (with_reducible repeat (first | apply kN_ | apply kD_ | apply kA_)); exact BK463.out) hb)
                      replace BK470 := As_ (blk_below (g := gb470) (o := .cells #[.int .i64 t464, .int .i64 t465, .slice Ao25 t466.length co25] 24 (0, 0)) (by (with_reducible repeat (first | apply kN_ | apply kD_ | apply kA_)); exact BK470.out) hb)
                      replace BK482 := As_ (blk_below (g := gb482) (o := .cells #[.int .i64 t476, .int .i64 t477, .slice Ao60 t478.length co60] 24 (0, 0)) (by (with_reducible repeat (first | apply kN_ | apply kD_ | apply kA_)); exact BK482.out) hb)
                      replace BK489 := As_ (blk_below (g := gb489) (o := .cells #[.int .i64 t483, .int .i64 t484, .slice Ao68 t485.length co68] 24 (0, 0)) (by (with_reducible repeat (first | apply kN_ | apply kD_ | apply kA_)); exact BK489.out) hb)
                      replace HB := As_ (below_step (by repeat (first | (with_reducible first | exact HB.out | apply bA_ | apply bN_ | apply bD_ | refine bS_ ?_ GE456.out | refine bS_ ?_ GE463.out | refine bS_ ?_ GE470.out | refine bS_ ?_ GE482.out | refine bS_ ?_ GE489.out) | exact HB.out)) hb)
                      (try clear hb)
                      (try clear hb2)
                      (try clear hk)
                      (try clear hi)
                      refine hK.out _ _ ⟨(blk_cell BK489.out 0).trans rfl, (blk_cell BK489.out 1).trans rfl, (blk_cell BK489.out 2).trans rfl, (blk_cell BK456.out 0).trans rfl, (blk_cell BK456.out 1).trans rfl, (blk_cell BK456.out 2).trans rfl⟩ (fun hHeld => ?_)
                      clear hK K
                      refine norm_ (a' := ?_) ?_ ?_
                      rotate_left
                      · show Act.put _ (some 107) _ = _
                        simp only [Act.put, List.setIfInBounds_toArray, List.set_cons_zero, List.set_cons_succ, i64_w, i32_w]
                        rfl
                      refine one_ (i := 17) (N := some 110) #[true, true, true, true, true, true, true, true, true, true, true, true, true, true, true, true, true, true, false, false, false] rfl rfl (one_of HT_.out (by kernel_rfl)) (by decide) (fun K hK => ?_)
                      refine goes_ Try.func23 (by kernel_rfl) rfl #[.agg #[.int .i64 t449, .int .i64 t450, .slice Ao13 t451.length co13], .int .i64 t454] (by rfl) rfl rfl (by (try simp only [List.map_toArray, List.map_cons, List.map_nil]); first | done | rfl | (simp only [List.length_drop, List.length_take]; rfl)) ?_
                      with_reducible refine (impl_RoomOf.calls kj8 t449 t450 _ _ t451 t454 t491 _ ?side1 ?side2 A50.out).mono ?_
                      (case side1 => repeat (first | exact (Kd.R_reads' HO_457002.out).2.2 | (with_reducible first | apply cA_ | apply cN_ | apply cD_)))
                      (case side2 => exact (Kd.R_reads' HO_457002.out).2.1)
                      rintro e w72 ⟨rfl, hb⟩
                      refine ⟨_, rfl, ?_⟩
                      replace HO_457002 := As_ (Kd.R_below (by (with_reducible repeat (first | apply rA_ | apply rN_ | apply rD_)); exact HO_457002.out) hb)
                      replace HO_464002 := As_ (Kd.R_below (by (with_reducible repeat (first | apply rA_ | apply rN_ | apply rD_)); exact HO_464002.out) hb)
                      replace HO_471002 := As_ (Kd.R_below (by (with_reducible repeat (first | apply rA_ | apply rN_ | apply rD_)); exact HO_471002.out) hb)
                      replace HO480 := As_ (Kd.R_below (by (with_reducible repeat (first | apply rA_ | apply rN_ | apply rD_)); exact HO480.out) hb)
                      replace HO487 := As_ (Kd.R_below (by (with_reducible repeat (first | apply rA_ | apply rN_ | apply rD_)); exact HO487.out) hb)
                      replace BK456 := As_ (blk_below (g := gb456) (o := .cells #[.int .i64 t449, .int .i64 t450, .slice Ao13 t451.length co13] 24 (0, 0)) (by (with_reducible repeat (first | apply kN_ | apply kD_ | apply kA_)); exact BK456.out) hb)
                      replace BK463 := As_ (blk_below (g := gb463) (o := .cells #[.int .i64 t457, .int .i64 t458, .slice Ao18 t459.length co18] 24 (0, 0)) (by (with_reducible repeat (first | apply kN_ | apply kD_ | apply kA_)); exact BK463.out) hb)
                      replace BK470 := As_ (blk_below (g := gb470) (o := .cells #[.int .i64 t464, .int .i64 t465, .slice Ao25 t466.length co25] 24 (0, 0)) (by (with_reducible repeat (first | apply kN_ | apply kD_ | apply kA_)); exact BK470.out) hb)
                      replace BK482 := As_ (blk_below (g := gb482) (o := .cells #[.int .i64 t476, .int .i64 t477, .slice Ao60 t478.length co60] 24 (0, 0)) (by (with_reducible repeat (first | apply kN_ | apply kD_ | apply kA_)); exact BK482.out) hb)
                      replace BK489 := As_ (blk_below (g := gb489) (o := .cells #[.int .i64 t483, .int .i64 t484, .slice Ao68 t485.length co68] 24 (0, 0)) (by (with_reducible repeat (first | apply kN_ | apply kD_ | apply kA_)); exact BK489.out) hb)
                      replace HB := As_ (below_step (by repeat (first | (with_reducible first | exact HB.out | apply bA_ | apply bN_ | apply bD_ | refine bS_ ?_ GE456.out | refine bS_ ?_ GE463.out | refine bS_ ?_ GE470.out | refine bS_ ?_ GE482.out | refine bS_ ?_ GE489.out) | exact HB.out)) hb)
                      (try clear hb)
                      (try clear hb2)
                      (try clear hk)
                      (try clear hi)
                      refine hK.out _ _ ⟨(blk_cell BK489.out 0).trans rfl, (blk_cell BK489.out 1).trans rfl, (blk_cell BK489.out 2).trans rfl, (blk_cell BK456.out 0).trans rfl, (blk_cell BK456.out 1).trans rfl, (blk_cell BK456.out 2).trans rfl⟩ (fun hHeld => ?_)
                      clear hK K
                      refine norm_ (a' := ?_) ?_ ?_
                      rotate_left
                      · show Act.put _ (some 110) _ = _
                        simp only [Act.put, List.setIfInBounds_toArray, List.set_cons_zero, List.set_cons_succ, i64_w, i32_w]
                        rfl
                      refine pure_ (i := 18) (N := some 111) (v := ?_) (a' := ?_) #[true, true, true, true, true, true, true, true, true, true, true, true, true, true, true, true, true, true, true, false, false] rfl rfl (any_of HT_.out (by kernel_rfl)) (fun _ _ _ h => h) (Or.inl ⟨by rfl, ?_⟩) ?_ ?_
                      rotate_left
                      · intro w'
                        go_simp
                        with_reducible rfl
                      rotate_left
                      · simp only [Act.put, List.setIfInBounds_toArray, List.set_cons_zero, List.set_cons_succ, i64_w, i32_w]
                        rfl
                      refine pure_ (i := 19) (N := some 112) (v := ?_) (a' := ?_) #[true, true, true, true, true, true, true, true, true, true, true, true, true, true, true, true, true, true, true, true, false] rfl rfl (any_of HT_.out (by kernel_rfl)) (fun _ _ _ h => h) (Or.inl ⟨by rfl, ?_⟩) ?_ ?_
                      rotate_left
                      · intro w'
                        go_simp
                        with_reducible rfl
                      rotate_left
                      · simp only [Act.put, List.setIfInBounds_toArray, List.set_cons_zero, List.set_cons_succ, i64_w, i32_w]
                        rfl
                      refine pure_ (i := 20) (N := some 2) (v := ?_) (a' := ?_) #[true, true, true, true, true, true, true, true, true, true, true, true, true, true, true, true, true, true, true, true, true] rfl rfl (any_of HT_.out (by kernel_rfl)) (fun _ _ _ h => h) (Or.inl ⟨by rfl, ?_⟩) ?_ ?_
                      rotate_left
                      · intro w'
                        go_simp
                        with_reducible rfl
                      rotate_left
                      · simp only [Act.put, List.setIfInBounds_toArray, List.set_cons_zero, List.set_cons_succ, i64_w, i32_w]
                        rfl
                      refine done_ (done_of HT_.out (by kernel_rfl)) ?_
                      try go_wp2
                      go_ret
                      exact ⟨by first | rfl | (simp [errW_none, errW_some] <;> rfl) | (simp [*, errW_none, errW_some] <;> rfl), by repeat (first | (with_reducible first | exact HB.out | apply bA_ | apply bN_ | apply bD_ | refine bS_ ?_ GE456.out | refine bS_ ?_ GE463.out | refine bS_ ?_ GE470.out | refine bS_ ?_ GE482.out | refine bS_ ?_ GE489.out) | exact HB.out)⟩
                    · rw [if_neg c48] at H
                      have c48b0 : (t483 == t449) = false := beq_eq_false_iff_ne.mpr c48
                      have c48b1 : (t483 != t449) = true := bne_iff_ne.mpr c48
                      exact absurd H (by simp)
                  · replace c47 := Bool.eq_false_iff.mpr c47
                    subst c47
                    have H1 : (none) = some r := by rw [if_neg (show ¬ (false = true) by decide)] at H; exact H
                    clear H
                    have H := H1
                    clear H1
                    exact absurd H (by simp)
                · replace c46 := Bool.eq_false_iff.mpr c46
                  subst c46
                  have H1 : (none) = some r := by rw [if_neg (show ¬ (false = true) by decide)] at H; exact H
                  clear H
                  have H := H1
                  clear H1
                  exact absurd H (by simp)
      · replace c8 := Bool.eq_false_iff.mpr c8
        subst c8
        have H1 : (if t457 = t449 then ((impl_RoomOf.f k t457 t458 t459 t454).bind fun t471 => ((impl_RoomOf.f k t449 t450 t451 t454).bind fun t472 => (some (t471 == t472)))) else (none)) = some r := by rw [if_neg (show ¬ (false = true) by decide)] at H; exact H
        clear H
        have H := H1
        clear H1
        by_cases c73 : t457 = t449
        · rw [if_pos c73] at H
          have c73b0 : (t457 == t449) = true := beq_iff_eq.mpr c73
          have c73b1 : (t457 != t449) = false := bne_eq_false_iff_eq.mpr c73
          clear c73
          replace H := Option.bind_eq_some_iff.mp H
          obtain ⟨t471, A740, H⟩ := H
          replace H : ((impl_RoomOf.f k t449 t450 t451 t454).bind fun t472 => (some (t471 == t472))) = some r := H
          have A74 := Aside0.mk A740
          clear A740
          replace H := Option.bind_eq_some_iff.mp H
          obtain ⟨t472, A750, H⟩ := H
          replace H : (some (t471 == t472)) = some r := H
          have A75 := Aside0.mk A750
          clear A750
          obtain rfl := Option.some.inj H
          go_enter Try.func10, Try.ntmps10
          try go_wp2_with (first | ((with_reducible refine gate_callee (f := 32) rfl ?_); refine goesL_ (some 15) rfl rfl Try.func32 (by kernel_rfl) rfl #[.slice A0 l0.length c0] rfl (by (try simp only [List.map_toArray, List.map_cons, List.map_nil]); first | done | rfl | (simp only [List.length_drop, List.length_take]; rfl)) ?_; (with_reducible refine (laws_big.calls _ _ l0 false _ ?side1 ?side2 A2.out).mono ?_); (case side1 => repeat (first | exact HR0.out | (with_reducible first | apply cA_ | apply cN_ | apply cD_))); (case side2 => exact HC0.out); rintro e w' ⟨rfl, ⟨nd, rfl⟩⟩; refine ⟨_, rfl, ?_⟩) | ((with_reducible refine gate_callee (f := 33) rfl ?_); refine goesL_ (some 18) rfl rfl Try.func33 (by kernel_rfl) rfl #[.slice A0 l0.length c0] rfl (by (try simp only [List.map_toArray, List.map_cons, List.map_nil]); first | done | rfl | (simp only [List.length_drop, List.length_take]; rfl)) ?_; (with_reducible refine (spec_DrawSpend.calls k _ _ l0 t449 t450 t451 t454 t455 _ ?side1 ?side2 A4.out).mono ?_); (case side1 => repeat (first | exact HR0.out | (with_reducible first | apply cA_ | apply cN_ | apply cD_))); (case side2 => exact HC0.out); rintro e w76 ⟨v452, rfl, ho0, hb⟩; refine ⟨_, rfl, ?_⟩; have HO453 := As_ (Kd.R_lower ho0 (below_size (by repeat (first | (with_reducible first | exact HB.out | apply bA_ | apply bN_ | apply bD_) | exact HB.out)))); replace HB := As_ (below_step (by repeat (first | (with_reducible first | exact HB.out | apply bA_ | apply bN_ | apply bD_) | exact HB.out)) hb); (try clear hb); (try clear hb2); (try clear hk); (try clear hi); (try clear ho0)) | ((with_reducible refine gate_dst (N := 3) rfl ?_); refine box_event ?hg (N := 3) ?hd (cs := #[.int .i64 0, .int .i64 0, .slice none 0 0]) (t := 24) ?hr ?_; (case hd => rfl); (case hg => rfl); (case hr => first | (go_simp; done) | (go_simp; rfl)); intro gb456 hg w77 hbox hb; have n0_ := As_ (Kd.R_below (by (with_reducible repeat (first | apply rA_ | apply rN_ | apply rD_)); exact HO453.out) hb); have n1_ := As_ (below_step (by repeat (first | (with_reducible first | exact HB.out | apply bA_ | apply bN_ | apply bD_) | exact HB.out)) hb); have n2_ := As_ (hbox); have n3_ := As_ ((by rw [hg]; exact (below_size (by repeat (first | (with_reducible first | exact HB.out | apply bA_ | apply bN_ | apply bD_) | exact HB.out))) : w.heap.size ≤ gb456)); have n4_ := As_ ((by rw [hg]; exact (below_size (by repeat (first | (with_reducible first | exact HB.out | apply bA_ | apply bN_ | apply bD_) | exact HB.out))) : w.heap.size ≤ gb456)); clear HO453 HB; have HO453 := n0_; have HB := n1_; have BK456 := n2_; have GW456 := n3_; have GE456 := n4_; clear n0_ n1_ n2_ n3_ n4_ hb hbox hg; obtain ⟨hcz78_0, hcz78_1, hcz78_2, hfz78_0, hfz78_1, hfz78_2⟩ := blk_all3 BK456.out; obtain ⟨Ao79, co79, eo79⟩ := Kd.R_slice HO453.out; subst eo79) | ((with_reducible refine gate_callee (f := 31) rfl ?_); refine goesL_ (some 26) rfl rfl Try.func31 (by kernel_rfl) rfl #[.agg #[.int .i64 t449, .int .i64 t450, .slice Ao79 t451.length co79], .int .i64 t454, .int .i64 t455] rfl (by (try simp only [List.map_toArray, List.map_cons, List.map_nil]); first | done | rfl | (simp only [List.length_drop, List.length_take]; rfl)) ?_; (with_reducible refine (impl_Spend.calls k t449 t450 _ _ t451 t454 t455 t457 t458 t459 false _ ?side1 ?side2 A5.out).mono ?_); (case side1 => refine (Kd.R_reads' (e := 48) (base := w.heap.size) (ok := fun k_ => True) (n := t451.length) (c := co79) ?_).2.2; exact (by (with_reducible repeat (first | apply rA_ | apply rN_ | apply rD_)); exact (Kd.R_mono (Kd.R_far (p := ⟨gb456, 2, none⟩) (Kd.R_far (p := ⟨gb456, 1, none⟩) (Kd.R_far (p := ⟨gb456, 0, none⟩) (Kd.R_types HO453.out BK456.out (by decide)) (fun _ hk => hk.2) (.int .i64 t449)) (fun _ hk => hk.2) (.int .i64 t450)) (fun _ hk => hk.2) (.slice Ao79 t451.length co79)) (fun _ h_ => h_.1)))); (case side2 => exact (Kd.R_reads' HO453.out).2.1); rintro e w80 ⟨v460, rfl, ho0, hb⟩; refine ⟨_, rfl, ?_⟩; have n0_ := As_ (Kd.R_elder' (by (with_reducible repeat (first | apply rA_ | apply rN_ | apply rD_)); exact (Kd.R_mono (Kd.R_far (p := ⟨gb456, 2, none⟩) (Kd.R_far (p := ⟨gb456, 1, none⟩) (Kd.R_far (p := ⟨gb456, 0, none⟩) (Kd.R_types HO453.out BK456.out (by decide)) (fun _ hk => hk.2) (.int .i64 t449)) (fun _ hk => hk.2) (.int .i64 t450)) (fun _ hk => hk.2) (.slice Ao79 t451.length co79)) (fun _ h_ => h_.1))) (Kd.R_base ho0) hb); have HO461 := As_ (Kd.R_lower (Kd.R_new' ho0 (Kd.R_lt (by (with_reducible repeat (first | apply rA_ | apply rN_ | apply rD_)); exact (Kd.R_mono (Kd.R_far (p := ⟨gb456, 2, none⟩) (Kd.R_far (p := ⟨gb456, 1, none⟩) (Kd.R_far (p := ⟨gb456, 0, none⟩) (Kd.R_types HO453.out BK456.out (by decide)) (fun _ hk => hk.2) (.int .i64 t449)) (fun _ hk => hk.2) (.int .i64 t450)) (fun _ hk => hk.2) (.slice Ao79 t451.length co79)) (fun _ h_ => h_.1))))) (below_size (by repeat (first | (with_reducible first | exact HB.out | apply bA_ | apply bN_ | apply bD_ | refine bS_ ?_ GE456.out) | exact HB.out)))); replace BK456 := As_ (blk_below (g := gb456) (o := .cells #[.int .i64 t449, .int .i64 t450, .slice Ao79 t451.length co79] 24 (0, 0)) (by (with_reducible repeat (first | apply kN_ | apply kD_ | apply kA_)); refine blk_put (cs := #[.int .i64 t449, .int .i64 t450, .slice none 0 0]) ?_ 2 _ rfl; (with_reducible repeat (first | apply kN_ | apply kD_ | apply kA_)); refine blk_put (cs := #[.int .i64 t449, .int .i64 0, .slice none 0 0]) ?_ 1 _ rfl; (with_reducible repeat (first | apply kN_ | apply kD_ | apply kA_)); refine blk_put (cs := #[.int .i64 0, .int .i64 0, .slice none 0 0]) ?_ 0 _ rfl; (with_reducible repeat (first | apply kN_ | apply kD_ | apply kA_)); exact BK456.out) hb); replace HB := As_ (below_step (by repeat (first | (with_reducible first | exact HB.out | apply bA_ | apply bN_ | apply bD_ | refine bS_ ?_ GE456.out) | exact HB.out)) hb); clear HO453; have HO453 := n0_; clear n0_; (try clear hb); (try clear hb2); (try clear hk); (try clear hi); (try clear ho0)) | ((with_reducible refine gate_dst (N := 6) rfl ?_); refine box_event ?hg (N := 6) ?hd (cs := #[.int .i64 0, .int .i64 0, .slice none 0 0]) (t := 24) ?hr ?_; (case hd => rfl); (case hg => rfl); (case hr => first | (go_simp; done) | (go_simp; rfl)); intro gb463 hg w81 hbox hb; have n0_ := As_ (Kd.R_below (by (with_reducible repeat (first | apply rA_ | apply rN_ | apply rD_)); exact HO453.out) hb); have n1_ := As_ (Kd.R_below (by (with_reducible repeat (first | apply rA_ | apply rN_ | apply rD_)); exact HO461.out) hb); have n2_ := As_ (blk_below (g := gb456) (o := .cells #[.int .i64 t449, .int .i64 t450, .slice Ao79 t451.length co79] 24 (0, 0)) (by (with_reducible repeat (first | apply kN_ | apply kD_ | apply kA_)); exact BK456.out) hb); have n3_ := As_ (below_step (by repeat (first | (with_reducible first | exact HB.out | apply bA_ | apply bN_ | apply bD_ | refine bS_ ?_ GE456.out) | exact HB.out)) hb); have n4_ := As_ (hbox); have n5_ := As_ ((by rw [hg]; exact (below_size (by repeat (first | (with_reducible first | exact HB.out | apply bA_ | apply bN_ | apply bD_ | refine bS_ ?_ GE456.out) | exact HB.out))) : w.heap.size ≤ gb463)); have n6_ := As_ ((by rw [hg]; exact (below_size (by repeat (first | (with_reducible first | exact HB.out | apply bA_ | apply bN_ | apply bD_ | refine bS_ ?_ GE456.out) | exact HB.out))) : w.heap.size ≤ gb463)); have n7_ := As_ ((by rw [hg]; exact Nat.ne_of_lt (blk_lt (g := gb456) (o := .cells #[.int .i64 t449, .int .i64 t450, .slice Ao79 t451.length co79] 24 (0, 0)) (by (with_reducible repeat (first | apply kN_ | apply kD_ | apply kA_)); exact BK456.out)) : gb456 ≠ gb463)); have n8_ := As_ ((by rw [hg]; exact Nat.ne_of_gt (blk_lt (g := gb456) (o := .cells #[.int .i64 t449, .int .i64 t450, .slice Ao79 t451.length co79] 24 (0, 0)) (by (with_reducible repeat (first | apply kN_ | apply kD_ | apply kA_)); exact BK456.out)) : gb463 ≠ gb456)); clear HO453 HO461 BK456 HB; have HO453 := n0_; have HO461 := n1_; have BK456 := n2_; have HB := n3_; have BK463 := n4_; have GW463 := n5_; have GE463 := n6_; have NB456_463 := n7_; have NB463_456 := n8_; clear n0_ n1_ n2_ n3_ n4_ n5_ n6_ n7_ n8_ hb hbox hg; have hnb82 := NB463_456.out; have hnc82 := NB456_463.out; obtain ⟨hcz83_0, hcz83_1, hcz83_2, hfz83_0, hfz83_1, hfz83_2⟩ := blk_all3 BK463.out; obtain ⟨Ao84, co84, eo84⟩ := Kd.R_slice HO461.out; subst eo84; obtain ⟨hcz85_0, hcz85_1, hcz85_2, hfz85_0, hfz85_1, hfz85_2⟩ := blk_all3 BK456.out) | ((with_reducible refine gate_callee (f := 30) rfl ?_); refine goesL_ (some 33) rfl rfl Try.func30 (by kernel_rfl) rfl #[.agg #[.int .i64 t449, .int .i64 t450, .slice Ao79 t451.length co79], .int .i64 t454, .int .i64 t455] rfl (by (try simp only [List.map_toArray, List.map_cons, List.map_nil]); first | done | rfl | (simp only [List.length_drop, List.length_take]; rfl)) ?_; (with_reducible refine (spec_Spend.calls k t449 t450 _ _ t451 t454 t455 t464 t465 t466 t469 _ ?side1 ?side2 A6.out).mono ?_); (case side1 => refine (Kd.R_reads' (e := 48) (base := w.heap.size) (ok := fun k_ => (True ∧ some k_ ≠ (.slice Ao84 t459.length co84 : Value).ownBlock)) (n := t451.length) (c := co79) ?_).2.2; exact (by (with_reducible repeat (first | apply rA_ | apply rN_ | apply rD_)); exact (Kd.R_mono (Kd.R_far (p := ⟨gb463, 2, none⟩) (Kd.R_far (p := ⟨gb463, 1, none⟩) (Kd.R_far (p := ⟨gb463, 0, none⟩) (Kd.R_types HO453.out BK463.out (by decide)) (fun _ hk => hk.2) (.int .i64 t457)) (fun _ hk => hk.2) (.int .i64 t458)) (fun _ hk => hk.2) (.slice Ao84 t459.length co84)) (fun _ h_ => h_.1)))); (case side2 => exact (Kd.R_reads' HO453.out).2.1); rintro e w86 ⟨v467, rfl, ho0, hb⟩; refine ⟨_, rfl, ?_⟩; have n0_ := As_ (Kd.R_elder' (by (with_reducible repeat (first | apply rA_ | apply rN_ | apply rD_)); exact (Kd.R_mono (Kd.R_far (p := ⟨gb463, 2, none⟩) (Kd.R_far (p := ⟨gb463, 1, none⟩) (Kd.R_far (p := ⟨gb463, 0, none⟩) (Kd.R_types HO453.out BK463.out (by decide)) (fun _ hk => hk.2) (.int .i64 t457)) (fun _ hk => hk.2) (.int .i64 t458)) (fun _ hk => hk.2) (.slice Ao84 t459.length co84)) (fun _ h_ => h_.1))) (Kd.R_base ho0) hb); have n1_ := As_ (Kd.R_elder' (by (with_reducible repeat (first | apply rA_ | apply rN_ | apply rD_)); exact (Kd.R_mono (Kd.R_far (p := ⟨gb463, 2, none⟩) (Kd.R_far (p := ⟨gb463, 1, none⟩) (Kd.R_far (p := ⟨gb463, 0, none⟩) (Kd.R_types HO461.out BK463.out (by decide)) (fun _ hk => hk.2) (.int .i64 t457)) (fun _ hk => hk.2) (.int .i64 t458)) (fun _ hk => hk.2) (.slice Ao84 t459.length co84)) (fun _ h_ => h_.1))) (Kd.R_base ho0) hb); have HO468 := As_ (Kd.R_lower (Kd.R_new' (Kd.R_new' ho0 (Kd.R_lt (by (with_reducible repeat (first | apply rA_ | apply rN_ | apply rD_)); exact (Kd.R_mono (Kd.R_far (p := ⟨gb463, 2, none⟩) (Kd.R_far (p := ⟨gb463, 1, none⟩) (Kd.R_far (p := ⟨gb463, 0, none⟩) (Kd.R_types HO453.out BK463.out (by decide)) (fun _ hk => hk.2) (.int .i64 t457)) (fun _ hk => hk.2) (.int .i64 t458)) (fun _ hk => hk.2) (.slice Ao84 t459.length co84)) (fun _ h_ => h_.1))))) (Kd.R_lt (by (with_reducible repeat (first | apply rA_ | apply rN_ | apply rD_)); exact (Kd.R_mono (Kd.R_far (p := ⟨gb463, 2, none⟩) (Kd.R_far (p := ⟨gb463, 1, none⟩) (Kd.R_far (p := ⟨gb463, 0, none⟩) (Kd.R_types HO461.out BK463.out (by decide)) (fun _ hk => hk.2) (.int .i64 t457)) (fun _ hk => hk.2) (.int .i64 t458)) (fun _ hk => hk.2) (.slice Ao84 t459.length co84)) (fun _ h_ => h_.1))))) (below_size (by repeat (first | (with_reducible first | exact HB.out | apply bA_ | apply bN_ | apply bD_ | refine bS_ ?_ GE456.out | refine bS_ ?_ GE463.out) | exact HB.out)))); replace BK456 := As_ (blk_below (g := gb456) (o := .cells #[.int .i64 t449, .int .i64 t450, .slice Ao79 t451.length co79] 24 (0, 0)) (by (with_reducible repeat (first | apply kN_ | apply kD_ | apply kA_)); refine blk_far ?_ NB456_463.out _; (with_reducible repeat (first | apply kN_ | apply kD_ | apply kA_)); refine blk_far ?_ NB456_463.out _; (with_reducible repeat (first | apply kN_ | apply kD_ | apply kA_)); refine blk_far ?_ NB456_463.out _; (with_reducible repeat (first | apply kN_ | apply kD_ | apply kA_)); exact BK456.out) hb); replace BK463 := As_ (blk_below (g := gb463) (o := .cells #[.int .i64 t457, .int .i64 t458, .slice Ao84 t459.length co84] 24 (0, 0)) (by (with_reducible repeat (first | apply kN_ | apply kD_ | apply kA_)); refine blk_put (cs := #[.int .i64 t457, .int .i64 t458, .slice none 0 0]) ?_ 2 _ rfl; (with_reducible repeat (first | apply kN_ | apply kD_ | apply kA_)); refine blk_put (cs := #[.int .i64 t457, .int .i64 0, .slice none 0 0]) ?_ 1 _ rfl; (with_reducible repeat (first | apply kN_ | apply kD_ | apply kA_)); refine blk_put (cs := #[.int .i64 0, .int .i64 0, .slice none 0 0]) ?_ 0 _ rfl; (with_reducible repeat (first | apply kN_ | apply kD_ | apply kA_)); exact BK463.out) hb); replace HB := As_ (below_step (by repeat (first | (with_reducible first | exact HB.out | apply bA_ | apply bN_ | apply bD_ | refine bS_ ?_ GE456.out | refine bS_ ?_ GE463.out) | exact HB.out)) hb); clear HO453 HO461; have HO453 := n0_; have HO461 := n1_; clear n0_ n1_; (try clear hb); (try clear hb2); (try clear hk); (try clear hi); (try clear ho0)) | ((with_reducible refine gate_dst (N := 8) rfl ?_); refine box_event ?hg (N := 8) ?hd (cs := #[.int .i64 0, .int .i64 0, .slice none 0 0]) (t := 24) ?hr ?_; (case hd => rfl); (case hg => rfl); (case hr => first | (go_simp; done) | (go_simp; rfl)); intro gb470 hg w87 hbox hb; have n0_ := As_ (Kd.R_below (by (with_reducible repeat (first | apply rA_ | apply rN_ | apply rD_)); exact HO453.out) hb); have n1_ := As_ (Kd.R_below (by (with_reducible repeat (first | apply rA_ | apply rN_ | apply rD_)); exact HO461.out) hb); have n2_ := As_ (Kd.R_below (by (with_reducible repeat (first | apply rA_ | apply rN_ | apply rD_)); exact HO468.out) hb); have n3_ := As_ (blk_below (g := gb456) (o := .cells #[.int .i64 t449, .int .i64 t450, .slice Ao79 t451.length co79] 24 (0, 0)) (by (with_reducible repeat (first | apply kN_ | apply kD_ | apply kA_)); exact BK456.out) hb); have n4_ := As_ (blk_below (g := gb463) (o := .cells #[.int .i64 t457, .int .i64 t458, .slice Ao84 t459.length co84] 24 (0, 0)) (by (with_reducible repeat (first | apply kN_ | apply kD_ | apply kA_)); exact BK463.out) hb); have n5_ := As_ (below_step (by repeat (first | (with_reducible first | exact HB.out | apply bA_ | apply bN_ | apply bD_ | refine bS_ ?_ GE456.out | refine bS_ ?_ GE463.out) | exact HB.out)) hb); have n6_ := As_ (hbox); have n7_ := As_ ((by rw [hg]; exact (below_size (by repeat (first | (with_reducible first | exact HB.out | apply bA_ | apply bN_ | apply bD_ | refine bS_ ?_ GE456.out | refine bS_ ?_ GE463.out) | exact HB.out))) : w.heap.size ≤ gb470)); have n8_ := As_ ((by rw [hg]; exact (below_size (by repeat (first | (with_reducible first | exact HB.out | apply bA_ | apply bN_ | apply bD_ | refine bS_ ?_ GE456.out | refine bS_ ?_ GE463.out) | exact HB.out))) : w.heap.size ≤ gb470)); have n9_ := As_ ((by rw [hg]; exact Nat.ne_of_lt (blk_lt (g := gb456) (o := .cells #[.int .i64 t449, .int .i64 t450, .slice Ao79 t451.length co79] 24 (0, 0)) (by (with_reducible repeat (first | apply kN_ | apply kD_ | apply kA_)); exact BK456.out)) : gb456 ≠ gb470)); have n10_ := As_ ((by rw [hg]; exact Nat.ne_of_gt (blk_lt (g := gb456) (o := .cells #[.int .i64 t449, .int .i64 t450, .slice Ao79 t451.length co79] 24 (0, 0)) (by (with_reducible repeat (first | apply kN_ | apply kD_ | apply kA_)); exact BK456.out)) : gb470 ≠ gb456)); have n11_ := As_ ((by rw [hg]; exact Nat.ne_of_lt (blk_lt (g := gb463) (o := .cells #[.int .i64 t457, .int .i64 t458, .slice Ao84 t459.length co84] 24 (0, 0)) (by (with_reducible repeat (first | apply kN_ | apply kD_ | apply kA_)); exact BK463.out)) : gb463 ≠ gb470)); have n12_ := As_ ((by rw [hg]; exact Nat.ne_of_gt (blk_lt (g := gb463) (o := .cells #[.int .i64 t457, .int .i64 t458, .slice Ao84 t459.length co84] 24 (0, 0)) (by (with_reducible repeat (first | apply kN_ | apply kD_ | apply kA_)); exact BK463.out)) : gb470 ≠ gb463)); clear HO453 HO461 HO468 BK456 BK463 HB; have HO453 := n0_; have HO461 := n1_; have HO468 := n2_; have BK456 := n3_; have BK463 := n4_; have HB := n5_; have BK470 := n6_; have GW470 := n7_; have GE470 := n8_; have NB456_470 := n9_; have NB470_456 := n10_; have NB463_470 := n11_; have NB470_463 := n12_; clear n0_ n1_ n2_ n3_ n4_ n5_ n6_ n7_ n8_ n9_ n10_ n11_ n12_ hb hbox hg; have hnb88 := NB470_456.out; have hnc88 := NB456_470.out; have hnb89 := NB470_463.out; have hnc89 := NB463_470.out; obtain ⟨hcz90_0, hcz90_1, hcz90_2, hfz90_0, hfz90_1, hfz90_2⟩ := blk_all3 BK470.out; obtain ⟨Ao91, co91, eo91⟩ := Kd.R_slice HO468.out; subst eo91))
          have n0_ : Aside0 (Kd.R k48 48 (((w87.setCell ⟨gb470, 0, none⟩ (.int .i64 t464)).setCell ⟨gb470, 1, none⟩ (.int .i64 t465)).setCell ⟨gb470, 2, none⟩ (.slice Ao91 t466.length co91)) w.heap.size (fun k_ => some k_ ≠ (.slice Ao84 t459.length co84 : Value).ownBlock ∧ some k_ ≠ (.slice Ao91 t466.length co91 : Value).ownBlock) (.slice Ao79 t451.length co79) t451) := ⟨by (with_reducible repeat (first | apply rA_ | apply rN_ | apply rD_)); exact Kd.R_mono (Kd.R_far (p := ⟨gb470, 2, none⟩) (Kd.R_far (p := ⟨gb470, 1, none⟩) (Kd.R_far (p := ⟨gb470, 0, none⟩) (Kd.R_types HO453.out BK470.out (by decide)) (fun _ hk => hk.2) (.int .i64 t464)) (fun _ hk => hk.2) (.int .i64 t465)) (fun _ hk => hk.2) (.slice Ao91 t466.length co91)) (fun _ hk => ⟨hk.1.1.2, hk.1.2⟩)⟩
          have n1_ : Aside0 (Kd.R k48 48 (((w87.setCell ⟨gb470, 0, none⟩ (.int .i64 t464)).setCell ⟨gb470, 1, none⟩ (.int .i64 t465)).setCell ⟨gb470, 2, none⟩ (.slice Ao91 t466.length co91)) w.heap.size (fun k_ => some k_ ≠ (.slice Ao79 t451.length co79 : Value).ownBlock ∧ some k_ ≠ (.slice Ao91 t466.length co91 : Value).ownBlock) (.slice Ao84 t459.length co84) t459) := ⟨by (with_reducible repeat (first | apply rA_ | apply rN_ | apply rD_)); exact Kd.R_mono (Kd.R_far (p := ⟨gb470, 2, none⟩) (Kd.R_far (p := ⟨gb470, 1, none⟩) (Kd.R_far (p := ⟨gb470, 0, none⟩) (Kd.R_types HO461.out BK470.out (by decide)) (fun _ hk => hk.2) (.int .i64 t464)) (fun _ hk => hk.2) (.int .i64 t465)) (fun _ hk => hk.2) (.slice Ao91 t466.length co91)) (fun _ hk => ⟨hk.1.1.2, hk.1.2⟩)⟩
          have n2_ : Aside0 (Kd.R k48 48 (((w87.setCell ⟨gb470, 0, none⟩ (.int .i64 t464)).setCell ⟨gb470, 1, none⟩ (.int .i64 t465)).setCell ⟨gb470, 2, none⟩ (.slice Ao91 t466.length co91)) w.heap.size (fun k_ => some k_ ≠ (.slice Ao79 t451.length co79 : Value).ownBlock ∧ some k_ ≠ (.slice Ao84 t459.length co84 : Value).ownBlock) (.slice Ao91 t466.length co91) t466) := ⟨by (with_reducible repeat (first | apply rA_ | apply rN_ | apply rD_)); exact Kd.R_mono (Kd.R_far (p := ⟨gb470, 2, none⟩) (Kd.R_far (p := ⟨gb470, 1, none⟩) (Kd.R_far (p := ⟨gb470, 0, none⟩) (Kd.R_types HO468.out BK470.out (by decide)) (fun _ hk => hk.2) (.int .i64 t464)) (fun _ hk => hk.2) (.int .i64 t465)) (fun _ hk => hk.2) (.slice Ao91 t466.length co91)) (fun _ hk => ⟨hk.1.1.2, hk.1.2⟩)⟩
          have n3_ : Aside0 ((((w87.setCell ⟨gb470, 0, none⟩ (.int .i64 t464)).setCell ⟨gb470, 1, none⟩ (.int .i64 t465)).setCell ⟨gb470, 2, none⟩ (.slice Ao91 t466.length co91)).heap[gb456]? = some (.cells #[.int .i64 t449, .int .i64 t450, .slice Ao79 t451.length co79] 24 (0, 0))) := ⟨by (with_reducible repeat (first | apply kN_ | apply kD_ | apply kA_)); refine blk_far ?_ NB456_470.out _; (with_reducible repeat (first | apply kN_ | apply kD_ | apply kA_)); refine blk_far ?_ NB456_470.out _; (with_reducible repeat (first | apply kN_ | apply kD_ | apply kA_)); refine blk_far ?_ NB456_470.out _; (with_reducible repeat (first | apply kN_ | apply kD_ | apply kA_)); exact BK456.out⟩
          have n4_ : Aside0 ((((w87.setCell ⟨gb470, 0, none⟩ (.int .i64 t464)).setCell ⟨gb470, 1, none⟩ (.int .i64 t465)).setCell ⟨gb470, 2, none⟩ (.slice Ao91 t466.length co91)).heap[gb463]? = some (.cells #[.int .i64 t457, .int .i64 t458, .slice Ao84 t459.length co84] 24 (0, 0))) := ⟨by (with_reducible repeat (first | apply kN_ | apply kD_ | apply kA_)); refine blk_far ?_ NB463_470.out _; (with_reducible repeat (first | apply kN_ | apply kD_ | apply kA_)); refine blk_far ?_ NB463_470.out _; (with_reducible repeat (first | apply kN_ | apply kD_ | apply kA_)); refine blk_far ?_ NB463_470.out _; (with_reducible repeat (first | apply kN_ | apply kD_ | apply kA_)); exact BK463.out⟩
          have n5_ : Aside0 ((((w87.setCell ⟨gb470, 0, none⟩ (.int .i64 t464)).setCell ⟨gb470, 1, none⟩ (.int .i64 t465)).setCell ⟨gb470, 2, none⟩ (.slice Ao91 t466.length co91)).heap[gb470]? = some (.cells #[.int .i64 t464, .int .i64 t465, .slice Ao91 t466.length co91] 24 (0, 0))) := ⟨by (with_reducible repeat (first | apply kN_ | apply kD_ | apply kA_)); refine blk_put (cs := #[.int .i64 t464, .int .i64 t465, .slice none 0 0]) ?_ 2 _ rfl; (with_reducible repeat (first | apply kN_ | apply kD_ | apply kA_)); refine blk_put (cs := #[.int .i64 t464, .int .i64 0, .slice none 0 0]) ?_ 1 _ rfl; (with_reducible repeat (first | apply kN_ | apply kD_ | apply kA_)); refine blk_put (cs := #[.int .i64 0, .int .i64 0, .slice none 0 0]) ?_ 0 _ rfl; (with_reducible repeat (first | apply kN_ | apply kD_ | apply kA_)); exact BK470.out⟩
          have n6_ : Aside0 (Below w.heap.size w (((w87.setCell ⟨gb470, 0, none⟩ (.int .i64 t464)).setCell ⟨gb470, 1, none⟩ (.int .i64 t465)).setCell ⟨gb470, 2, none⟩ (.slice Ao91 t466.length co91))) := ⟨by repeat (first | (with_reducible first | exact HB.out | apply bA_ | apply bN_ | apply bD_ | refine bS_ ?_ GE456.out | refine bS_ ?_ GE463.out | refine bS_ ?_ GE470.out) | exact HB.out)⟩
          (try clear HO453)
          (try clear HO461)
          (try clear HO468)
          (try clear BK456)
          (try clear BK463)
          (try clear BK470)
          (try clear HB)
          generalize (((w87.setCell ⟨gb470, 0, none⟩ (.int .i64 t464)).setCell ⟨gb470, 1, none⟩ (.int .i64 t465)).setCell ⟨gb470, 2, none⟩ (.slice Ao91 t466.length co91)) = w92 at n0_ n1_ n2_ n3_ n4_ n5_ n6_ ⊢
          have HO453 := n0_
          have HO461 := n1_
          have HO468 := n2_
          have BK456 := n3_
          have BK463 := n4_
          have BK470 := n5_
          have HB := n6_
          clear n0_ n1_ n2_ n3_ n4_ n5_ n6_
          replace HO453 := As_ (Kd.R_drew HO453.out)
          replace HO461 := As_ (Kd.R_drew HO461.out)
          replace HO468 := As_ (Kd.R_drew HO468.out)
          replace BK456 := As_ (blk_drew BK456.out)
          replace BK463 := As_ (blk_drew BK463.out)
          replace BK470 := As_ (blk_drew BK470.out)
          replace HB := As_ (below_drew1 HB.out)
          refine start_ (n := 15) (S := fun w' => w'.cell? ⟨gb463, 0, none⟩ = some (.int .i64 t457) ∧ w'.cell? ⟨gb463, 1, none⟩ = some (.int .i64 t458) ∧ w'.cell? ⟨gb463, 2, none⟩ = some (.slice Ao84 t459.length co84) ∧ w'.cell? ⟨gb456, 0, none⟩ = some (.int .i64 t449) ∧ w'.cell? ⟨gb456, 1, none⟩ = some (.int .i64 t450) ∧ w'.cell? ⟨gb456, 2, none⟩ = some (.slice Ao79 t451.length co79)) (ds := []) #[false, false, false, false, false, false, false, false, false, false, false, false, false, false, false] (by kernel_rfl) rfl rfl ⟨(blk_cell BK463.out 0).trans rfl, (blk_cell BK463.out 1).trans rfl, (blk_cell BK463.out 2).trans rfl, (blk_cell BK456.out 0).trans rfl, (blk_cell BK456.out 1).trans rfl, (blk_cell BK456.out 2).trans rfl⟩ (fun hHeld => ?_); refine with_tabW laws_FnSpent.tab9 laws_FnSpent.bits9 (fun HT_ HW_ => ?_)
          generalize w92.drew = w93 at HO453 HO461 HO468 BK456 BK463 BK470 HB hHeld ⊢
          refine pure_ (i := 0) (N := some 41) (v := ?_) (a' := ?_) #[true, false, false, false, false, false, false, false, false, false, false, false, false, false, false] rfl rfl (any_of HT_.out (by kernel_rfl)) (fun _ _ _ h => h) (Or.inl ⟨by rfl, ?_⟩) ?_ ?_
          rotate_left
          · intro w'
            go_simp
            with_reducible rfl
          rotate_left
          · simp only [Act.put, List.setIfInBounds_toArray, List.set_cons_zero, List.set_cons_succ, i64_w, i32_w]
            rfl
          refine pure_ (i := 2) (N := some 43) (v := ?_) (a' := ?_) #[true, false, true, false, false, false, false, false, false, false, false, false, false, false, false] rfl rfl (any_of HT_.out (by kernel_rfl)) (fun _ _ _ h => h) (Or.inl ⟨by rfl, ?_⟩) ?_ ?_
          rotate_left
          · intro w'
            go_simp
            with_reducible rfl
          rotate_left
          · simp only [Act.put, List.setIfInBounds_toArray, List.set_cons_zero, List.set_cons_succ, i64_w, i32_w]
            rfl
          refine take_ (i := 1) (N := some 42) (v := ?_) (a' := ?_) #[true, true, true, false, false, false, false, false, false, false, false, false, false, false, false] rfl rfl (take_ofW HT_.out HW_.out (by kernel_rfl)) (fun _ _ _ h => h) (Or.inl ⟨by rfl, ?_⟩) hHeld ?_ ?_
          rotate_left
          · rintro w' ⟨s0, s1, s2, s3, s4, s5⟩
            go_simp
            with_reducible rfl
          rotate_left
          · simp only [Act.put, List.setIfInBounds_toArray, List.set_cons_zero, List.set_cons_succ, i64_w, i32_w]
            rfl
          refine take_ (i := 3) (N := some 44) (v := ?_) (a' := ?_) #[true, true, true, true, false, false, false, false, false, false, false, false, false, false, false] rfl rfl (take_ofW HT_.out HW_.out (by kernel_rfl)) (fun _ _ _ h => h) (Or.inl ⟨by rfl, ?_⟩) hHeld ?_ ?_
          rotate_left
          · rintro w' ⟨s0, s1, s2, s3, s4, s5⟩
            go_simp
            with_reducible rfl
          rotate_left
          · simp only [Act.put, List.setIfInBounds_toArray, List.set_cons_zero, List.set_cons_succ, i64_w, i32_w]
            rfl
          refine pure_ (i := 4) (N := some 45) (v := ?_) (a' := ?_) #[true, true, true, true, true, false, false, false, false, false, false, false, false, false, false] rfl rfl (any_of HT_.out (by kernel_rfl)) (fun _ _ _ h => h) (Or.inl ⟨by rfl, ?_⟩) ?_ ?_
          rotate_left
          · intro w'
            go_simp
            with_reducible rfl
          rotate_left
          · simp only [Act.put, List.setIfInBounds_toArray, List.set_cons_zero, List.set_cons_succ, i64_w, i32_w]
            rfl
          refine pure_ (i := 5) (N := some 46) (v := ?_) (a' := ?_) #[true, true, true, true, true, true, false, false, false, false, false, false, false, false, false] rfl rfl (any_of HT_.out (by kernel_rfl)) (fun _ _ _ h => h) (Or.inl ⟨by rfl, ?_⟩) ?_ ?_
          rotate_left
          · intro w'
            go_simp
            with_reducible rfl
          rotate_left
          · simp only [Act.put, List.setIfInBounds_toArray, List.set_cons_zero, List.set_cons_succ, i64_w, i32_w]
            rfl
          refine pure_ (i := 7) (N := some 48) (v := ?_) (a' := ?_) #[true, true, true, true, true, true, false, true, false, false, false, false, false, false, false] rfl rfl (any_of HT_.out (by kernel_rfl)) (fun _ _ _ h => h) (Or.inl ⟨by rfl, ?_⟩) ?_ ?_
          rotate_left
          · intro w'
            go_simp
            with_reducible rfl
          rotate_left
          · simp only [Act.put, List.setIfInBounds_toArray, List.set_cons_zero, List.set_cons_succ, i64_w, i32_w]
            rfl
          refine pure_ (i := 10) (N := some 51) (v := ?_) (a' := ?_) #[true, true, true, true, true, true, false, true, false, false, true, false, false, false, false] rfl rfl (any_of HT_.out (by kernel_rfl)) (fun _ _ _ h => h) (Or.inl ⟨by rfl, ?_⟩) ?_ ?_
          rotate_left
          · intro w'
            go_simp
            with_reducible rfl
          rotate_left
          · simp only [Act.put, List.setIfInBounds_toArray, List.set_cons_zero, List.set_cons_succ, i64_w, i32_w]
            rfl
          refine take_ (i := 6) (N := some 47) (v := ?_) (a' := ?_) #[true, true, true, true, true, true, true, true, false, false, true, false, false, false, false] rfl rfl (take_ofW HT_.out HW_.out (by kernel_rfl)) (fun _ _ _ h => h) (Or.inl ⟨by rfl, ?_⟩) hHeld ?_ ?_
          rotate_left
          · rintro w' ⟨s0, s1, s2, s3, s4, s5⟩
            go_simp
            with_reducible rfl
          rotate_left
          · simp only [Act.put, List.setIfInBounds_toArray, List.set_cons_zero, List.set_cons_succ, i64_w, i32_w]
            rfl
          refine take_ (i := 9) (N := some 50) (v := ?_) (a' := ?_) #[true, true, true, true, true, true, true, true, false, true, true, false, false, false, false] rfl rfl (take_ofW HT_.out HW_.out (by kernel_rfl)) (fun _ _ _ h => h) (Or.inl ⟨by rfl, ?_⟩) hHeld ?_ ?_
          rotate_left
          · rintro w' ⟨s0, s1, s2, s3, s4, s5⟩
            go_simp
            with_reducible rfl
          rotate_left
          · simp only [Act.put, List.setIfInBounds_toArray, List.set_cons_zero, List.set_cons_succ, i64_w, i32_w]
            rfl
          refine one_ (i := 8) (N := some 49) #[true, true, true, true, true, true, true, true, true, true, true, false, false, false, false] rfl rfl (one_of HT_.out (by kernel_rfl)) (by decide) (fun K hK => ?_)
          refine goes_ Try.func23 (by kernel_rfl) rfl #[.agg #[.int .i64 t457, .int .i64 t458, .slice Ao84 t459.length co84], .int .i64 t454] (by rfl) rfl rfl (by (try simp only [List.map_toArray, List.map_cons, List.map_nil]); first | done | rfl | (simp only [List.length_drop, List.length_take]; rfl)) ?_
          with_reducible refine (impl_RoomOf.calls k t457 t458 _ _ t459 t454 t471 _ ?side1 ?side2 A74.out).mono ?_
          (case side1 => repeat (first | exact (Kd.R_reads' HO461.out).2.2 | (with_reducible first | apply cA_ | apply cN_ | apply cD_)))
          (case side2 => exact (Kd.R_reads' HO461.out).2.1)
          rintro e w94 ⟨rfl, hb⟩
          refine ⟨_, rfl, ?_⟩
          replace HO453 := As_ (Kd.R_below (by (with_reducible repeat (first | apply rA_ | apply rN_ | apply rD_)); exact HO453.out) hb)
          replace HO461 := As_ (Kd.R_below (by (with_reducible repeat (first | apply rA_ | apply rN_ | apply rD_)); exact HO461.out) hb)
          replace HO468 := As_ (Kd.R_below (by (with_reducible repeat (first | apply rA_ | apply rN_ | apply rD_)); exact HO468.out) hb)
          replace BK456 := As_ (blk_below (g := gb456) (o := .cells #[.int .i64 t449, .int .i64 t450, .slice Ao79 t451.length co79] 24 (0, 0)) (by (with_reducible repeat (first | apply kN_ | apply kD_ | apply kA_)); exact BK456.out) hb)
          replace BK463 := As_ (blk_below (g := gb463) (o := .cells #[.int .i64 t457, .int .i64 t458, .slice Ao84 t459.length co84] 24 (0, 0)) (by (with_reducible repeat (first | apply kN_ | apply kD_ | apply kA_)); exact BK463.out) hb)
          replace BK470 := As_ (blk_below (g := gb470) (o := .cells #[.int .i64 t464, .int .i64 t465, .slice Ao91 t466.length co91] 24 (0, 0)) (by (with_reducible repeat (first | apply kN_ | apply kD_ | apply kA_)); exact BK470.out) hb)
          replace HB := As_ (below_step (by repeat (first | (with_reducible first | exact HB.out | apply bA_ | apply bN_ | apply bD_ | refine bS_ ?_ GE456.out | refine bS_ ?_ GE463.out | refine bS_ ?_ GE470.out) | exact HB.out)) hb)
          (try clear hb)
          (try clear hb2)
          (try clear hk)
          (try clear hi)
          refine hK.out _ _ ⟨(blk_cell BK463.out 0).trans rfl, (blk_cell BK463.out 1).trans rfl, (blk_cell BK463.out 2).trans rfl, (blk_cell BK456.out 0).trans rfl, (blk_cell BK456.out 1).trans rfl, (blk_cell BK456.out 2).trans rfl⟩ (fun hHeld => ?_)
          clear hK K
          refine norm_ (a' := ?_) ?_ ?_
          rotate_left
          · show Act.put _ (some 49) _ = _
            simp only [Act.put, List.setIfInBounds_toArray, List.set_cons_zero, List.set_cons_succ, i64_w, i32_w]
            rfl
          refine one_ (i := 11) (N := some 52) #[true, true, true, true, true, true, true, true, true, true, true, true, false, false, false] rfl rfl (one_of HT_.out (by kernel_rfl)) (by decide) (fun K hK => ?_)
          refine goes_ Try.func23 (by kernel_rfl) rfl #[.agg #[.int .i64 t449, .int .i64 t450, .slice Ao79 t451.length co79], .int .i64 t454] (by rfl) rfl rfl (by (try simp only [List.map_toArray, List.map_cons, List.map_nil]); first | done | rfl | (simp only [List.length_drop, List.length_take]; rfl)) ?_
          with_reducible refine (impl_RoomOf.calls k t449 t450 _ _ t451 t454 t472 _ ?side1 ?side2 A75.out).mono ?_
          (case side1 => repeat (first | exact (Kd.R_reads' HO453.out).2.2 | (with_reducible first | apply cA_ | apply cN_ | apply cD_)))
          (case side2 => exact (Kd.R_reads' HO453.out).2.1)
          rintro e w95 ⟨rfl, hb⟩
          refine ⟨_, rfl, ?_⟩
          replace HO453 := As_ (Kd.R_below (by (with_reducible repeat (first | apply rA_ | apply rN_ | apply rD_)); exact HO453.out) hb)
          replace HO461 := As_ (Kd.R_below (by (with_reducible repeat (first | apply rA_ | apply rN_ | apply rD_)); exact HO461.out) hb)
          replace HO468 := As_ (Kd.R_below (by (with_reducible repeat (first | apply rA_ | apply rN_ | apply rD_)); exact HO468.out) hb)
          replace BK456 := As_ (blk_below (g := gb456) (o := .cells #[.int .i64 t449, .int .i64 t450, .slice Ao79 t451.length co79] 24 (0, 0)) (by (with_reducible repeat (first | apply kN_ | apply kD_ | apply kA_)); exact BK456.out) hb)
          replace BK463 := As_ (blk_below (g := gb463) (o := .cells #[.int .i64 t457, .int .i64 t458, .slice Ao84 t459.length co84] 24 (0, 0)) (by (with_reducible repeat (first | apply kN_ | apply kD_ | apply kA_)); exact BK463.out) hb)
          replace BK470 := As_ (blk_below (g := gb470) (o := .cells #[.int .i64 t464, .int .i64 t465, .slice Ao91 t466.length co91] 24 (0, 0)) (by (with_reducible repeat (first | apply kN_ | apply kD_ | apply kA_)); exact BK470.out) hb)
          replace HB := As_ (below_step (by repeat (first | (with_reducible first | exact HB.out | apply bA_ | apply bN_ | apply bD_ | refine bS_ ?_ GE456.out | refine bS_ ?_ GE463.out | refine bS_ ?_ GE470.out) | exact HB.out)) hb)
          (try clear hb)
          (try clear hb2)
          (try clear hk)
          (try clear hi)
          refine hK.out _ _ ⟨(blk_cell BK463.out 0).trans rfl, (blk_cell BK463.out 1).trans rfl, (blk_cell BK463.out 2).trans rfl, (blk_cell BK456.out 0).trans rfl, (blk_cell BK456.out 1).trans rfl, (blk_cell BK456.out 2).trans rfl⟩ (fun hHeld => ?_)
          clear hK K
          refine norm_ (a' := ?_) ?_ ?_
          rotate_left
          · show Act.put _ (some 52) _ = _
            simp only [Act.put, List.setIfInBounds_toArray, List.set_cons_zero, List.set_cons_succ, i64_w, i32_w]
            rfl
          refine pure_ (i := 12) (N := some 53) (v := ?_) (a' := ?_) #[true, true, true, true, true, true, true, true, true, true, true, true, true, false, false] rfl rfl (any_of HT_.out (by kernel_rfl)) (fun _ _ _ h => h) (Or.inl ⟨by rfl, ?_⟩) ?_ ?_
          rotate_left
          · intro w'
            go_simp
            with_reducible rfl
          rotate_left
          · simp only [Act.put, List.setIfInBounds_toArray, List.set_cons_zero, List.set_cons_succ, i64_w, i32_w]
            rfl
          refine pure_ (i := 13) (N := some 54) (v := ?_) (a' := ?_) #[true, true, true, true, true, true, true, true, true, true, true, true, true, true, false] rfl rfl (any_of HT_.out (by kernel_rfl)) (fun _ _ _ h => h) (Or.inl ⟨by rfl, ?_⟩) ?_ ?_
          rotate_left
          · intro w'
            go_simp
            with_reducible rfl
          rotate_left
          · simp only [Act.put, List.setIfInBounds_toArray, List.set_cons_zero, List.set_cons_succ, i64_w, i32_w]
            rfl
          refine pure_ (i := 14) (N := some 2) (v := ?_) (a' := ?_) #[true, true, true, true, true, true, true, true, true, true, true, true, true, true, true] rfl rfl (any_of HT_.out (by kernel_rfl)) (fun _ _ _ h => h) (Or.inl ⟨by rfl, ?_⟩) ?_ ?_
          rotate_left
          · intro w'
            go_simp
            with_reducible rfl
          rotate_left
          · simp only [Act.put, List.setIfInBounds_toArray, List.set_cons_zero, List.set_cons_succ, i64_w, i32_w]
            rfl
          refine done_ (done_of HT_.out (by kernel_rfl)) ?_
          try go_wp2
          go_ret
          exact ⟨by first | rfl | (simp [errW_none, errW_some] <;> rfl) | (simp [*, errW_none, errW_some] <;> rfl), by repeat (first | (with_reducible first | exact HB.out | apply bA_ | apply bN_ | apply bD_ | refine bS_ ?_ GE456.out | refine bS_ ?_ GE463.out | refine bS_ ?_ GE470.out) | exact HB.out)⟩
        · rw [if_neg c73] at H
          have c73b0 : (t457 == t449) = false := beq_eq_false_iff_ne.mpr c73
          have c73b1 : (t457 != t449) = true := bne_iff_ne.mpr c73
          exact absurd H (by simp)

end Go.Proofs.Ytejnagdmfooemaa.QFnSpent
