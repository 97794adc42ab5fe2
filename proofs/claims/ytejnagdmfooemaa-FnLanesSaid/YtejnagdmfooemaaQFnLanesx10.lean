/- Contracts of functions of the translation, each with its pure function; printed by a program of this session (wip/pr.py) over the kit's print; no condition of its own. -/
import Derived.Test.YtejnagdmfooemaaQFnLanesx0
import Derived.Test.YtejnagdmfooemaaQFnLanesx1
import Derived.Test.YtejnagdmfooemaaQFnLanesx3
import Derived.Test.YtejnagdmfooemaaQFnLanesx4
import Derived.Test.YtejnagdmfooemaaQFnLanesx5
import Derived.Test.YtejnagdmfooemaaQFnLanesx6
import Derived.Test.YtejnagdmfooemaaQFnLanesx9
namespace Go.Proofs.Ytejnagdmfooemaa.QFnLanes
open Go.RowKit Go.Proofs.YtejnagdmfooemaaW.PrintWords Go.Proofs.YtejnagdmfooemaaW.PrintLast Go.Proofs.YtejnagdmfooemaaW.PrintMore
attribute [local go_sem] max2_int min2_int max_two min_two max_three min_three max_four min_four   -- for this text's walks alone
set_option linter.unusedVariables false
set_option linter.unusedSimpArgs false

/-! ### laws_FnLanes: function 12 -/
mutual
def laws_FnLanes.j0 : Nat → List Int → Option (Bool)
  | 0, _ => none
  | k + 1, x0 => (spec_DrawNewInit.f k x0).bind fun bt513 => ((impl_NewInit.f k bt513.1 bt513.2.1 bt513.2.2.1 bt513.2.2.2).bind fun bt520 => ((spec_NewInit.f k bt513.1 bt513.2.1 bt513.2.2.1 bt513.2.2.2).bind fun bt527 => (if (bt520.2.2.2 != bt527.2.2.2) = true then (laws_FnLanes.j1 k bt513.2.2.2 bt520.2.2.2 bt527.2.2.2 true bt513.1 bt513.2.1 bt513.2.2.1 bt520.1 bt520.2.1 bt520.2.2.1) else (laws_FnLanes.j1 k bt513.2.2.2 bt520.2.2.2 bt527.2.2.2 (!bt520.2.2.2) bt513.1 bt513.2.1 bt513.2.2.1 bt520.1 bt520.2.1 bt520.2.2.1))))
def laws_FnLanes.j1 : Nat → Int → Bool → Bool → Bool → Int → Int → List (S48) → Int → Int → List (S48) → Option (Bool)
  | 0, _, _, _, _, _, _, _, _, _, _ => none
  | k + 1, x12, x14, x16, x96, x520000, x520001, x520002, x527000, x527001, x527002 => if x96 = true then (if (x14 == x16) = true then (some (x527001 == x520001)) else (none)) else (laws_FnLanes.l0 k x12 0 x520000 x520001 x520002 x527000 x527001 x527002)
def laws_FnLanes.l0 : Nat → Int → Int → Int → Int → List (S48) → Int → Int → List (S48) → Option (Bool)
  | 0, _, _, _, _, _, _, _, _ => none
  | k + 1, x12, x17, x520000, x520001, x520002, x527000, x527001, x527002 => if x17 < (x520002.length : Int) then (if 0 ≤ x17 then (if x17 < (x527002.length : Int) then (if (wrap64 (((rd_T48 x527002 x17).f1) - ((rd_T48 x520002 x17).f1))) = (wrap64 (x12 - x520001)) then (if ((rd_T48 x527002 x17).f0) = ((rd_T48 x520002 x17).f0) then (laws_FnLanes.l0 k x12 (wrap64 (x17 + 1)) x520000 x520001 x520002 x527000 x527001 x527002) else (none)) else (none)) else (none)) else (none)) else ((impl_FlowOk.f k x527000 x527001 x527002).bind fun t538 => (if t538 = true then (if x527001 = x12 then ((impl_FlowNew.f x12).bind fun bt539 => (some (bt539.2.1 == x12))) else (none)) else (none)))
end
def laws_FnLanes.f (k : Nat) (l0 : List Int) : Option (Bool) := (laws_big.f l0).bind fun t483 => (if t483 = true then (some true) else ((spec_DrawOpenLane.f k l0).bind fun bt484 => ((impl_OpenLane.f k bt484.1 bt484.2.1 bt484.2.2.1 bt484.2.2.2).bind fun bt491 => ((spec_OpenLane.f k bt484.1 bt484.2.1 bt484.2.2.1 bt484.2.2.2).bind fun bt498 => (if (bt491.2.2.2 != bt498.2.2.2) = true then (none) else (if bt491.2.2.2 = true then ((impl_CloseLane.f k bt491.1 bt491.2.1 bt491.2.2.1 bt484.2.2.2).bind fun bt505 => (if bt505.2.2.2 = true then (if (bt505.2.2.1.length : Int) = (bt484.2.2.1.length : Int) then (if (bt491.2.2.1.length : Int) = (wrap64 ((bt484.2.2.1.length : Int) + 1)) then ((impl_FlowOk.f k bt491.1 bt491.2.1 bt491.2.2.1).bind fun t512 => (if t512 = true then (laws_FnLanes.j0 k l0) else (none))) else (none)) else (none)) else (none))) else (laws_FnLanes.j0 k l0)))))))
theorem laws_FnLanes.mono_l : ∀ k, (∀ y0, LeO (laws_FnLanes.j0 k y0) (laws_FnLanes.j0 (k + 1) y0)) ∧ (∀ y0 y1 y2 y3 y4 y5 y6 y7 y8 y9, LeO (laws_FnLanes.j1 k y0 y1 y2 y3 y4 y5 y6 y7 y8 y9) (laws_FnLanes.j1 (k + 1) y0 y1 y2 y3 y4 y5 y6 y7 y8 y9)) ∧ (∀ y0 y1 y2 y3 y4 y5 y6 y7, LeO (laws_FnLanes.l0 k y0 y1 y2 y3 y4 y5 y6 y7) (laws_FnLanes.l0 (k + 1) y0 y1 y2 y3 y4 y5 y6 y7))
  | 0 => ⟨fun _ r h => by simp [laws_FnLanes.j0] at h, fun _ _ _ _ _ _ _ _ _ _ r h => by simp [laws_FnLanes.j1] at h, fun _ _ _ _ _ _ _ _ r h => by simp [laws_FnLanes.l0] at h⟩
  | k + 1 => by
    obtain ⟨ih0, ih1, ih2⟩ := laws_FnLanes.mono_l k
    refine ⟨?_, ?_, ?_⟩
    · intro y0
      unfold laws_FnLanes.j0
      repeat' first
      | (with_reducible exact ih0 _)
      | (with_reducible exact ih1 _ _ _ _ _ _ _ _ _ _)
      | (with_reducible exact ih2 _ _ _ _ _ _ _ _)
      | (with_reducible exact impl_CloseLane.mono _ _ _ _ _)
      | (with_reducible exact impl_FlowOk.mono _ _ _ _)
      | (with_reducible exact impl_NewInit.mono _ _ _ _ _)
      | (with_reducible exact impl_OpenLane.mono _ _ _ _ _)
      | (with_reducible exact spec_DrawNewInit.mono _ _)
      | (with_reducible exact spec_DrawOpenLane.mono _ _)
      | (with_reducible exact spec_NewInit.mono _ _ _ _ _)
      | (with_reducible exact spec_OpenLane.mono _ _ _ _ _)
      | (with_reducible exact LeO.refl _)
      | (with_reducible exact LeO.none _)
      | (with_reducible refine LeO.ite ?_ ?_)
      | (with_reducible refine LeO.bind ?_ (fun _ => ?_))
      | exact ih0 _
      | exact ih1 _ _ _ _ _ _ _ _ _ _
      | exact ih2 _ _ _ _ _ _ _ _
      | exact impl_CloseLane.mono _ _ _ _ _
      | exact impl_FlowOk.mono _ _ _ _
      | exact impl_NewInit.mono _ _ _ _ _
      | exact impl_OpenLane.mono _ _ _ _ _
      | exact spec_DrawNewInit.mono _ _
      | exact spec_DrawOpenLane.mono _ _
      | exact spec_NewInit.mono _ _ _ _ _
      | exact spec_OpenLane.mono _ _ _ _ _
      | exact LeO.none _
      | refine LeO.ite ?_ ?_
      | refine LeO.bind ?_ (fun _ => ?_)
    · intro y0 y1 y2 y3 y4 y5 y6 y7 y8 y9
      unfold laws_FnLanes.j1
      repeat' first
      | (with_reducible exact ih0 _)
      | (with_reducible exact ih1 _ _ _ _ _ _ _ _ _ _)
      | (with_reducible exact ih2 _ _ _ _ _ _ _ _)
      | (with_reducible exact impl_CloseLane.mono _ _ _ _ _)
      | (with_reducible exact impl_FlowOk.mono _ _ _ _)
      | (with_reducible exact impl_NewInit.mono _ _ _ _ _)
      | (with_reducible exact impl_OpenLane.mono _ _ _ _ _)
      | (with_reducible exact spec_DrawNewInit.mono _ _)
      | (with_reducible exact spec_DrawOpenLane.mono _ _)
      | (with_reducible exact spec_NewInit.mono _ _ _ _ _)
      | (with_reducible exact spec_OpenLane.mono _ _ _ _ _)
      | (with_reducible exact LeO.refl _)
      | (with_reducible exact LeO.none _)
      | (with_reducible refine LeO.ite ?_ ?_)
      | (with_reducible refine LeO.bind ?_ (fun _ => ?_))
      | exact ih0 _
      | exact ih1 _ _ _ _ _ _ _ _ _ _
      | exact ih2 _ _ _ _ _ _ _ _
      | exact impl_CloseLane.mono _ _ _ _ _
      | exact impl_FlowOk.mono _ _ _ _
      | exact impl_NewInit.mono _ _ _ _ _
      | exact impl_OpenLane.mono _ _ _ _ _
      | exact spec_DrawNewInit.mono _ _
      | exact spec_DrawOpenLane.mono _ _
      | exact spec_NewInit.mono _ _ _ _ _
      | exact spec_OpenLane.mono _ _ _ _ _
      | exact LeO.none _
      | refine LeO.ite ?_ ?_
      | refine LeO.bind ?_ (fun _ => ?_)
    · intro y0 y1 y2 y3 y4 y5 y6 y7
      unfold laws_FnLanes.l0
      repeat' first
      | (with_reducible exact ih0 _)
      | (with_reducible exact ih1 _ _ _ _ _ _ _ _ _ _)
      | (with_reducible exact ih2 _ _ _ _ _ _ _ _)
      | (with_reducible exact impl_CloseLane.mono _ _ _ _ _)
      | (with_reducible exact impl_FlowOk.mono _ _ _ _)
      | (with_reducible exact impl_NewInit.mono _ _ _ _ _)
      | (with_reducible exact impl_OpenLane.mono _ _ _ _ _)
      | (with_reducible exact spec_DrawNewInit.mono _ _)
      | (with_reducible exact spec_DrawOpenLane.mono _ _)
      | (with_reducible exact spec_NewInit.mono _ _ _ _ _)
      | (with_reducible exact spec_OpenLane.mono _ _ _ _ _)
      | (with_reducible exact LeO.refl _)
      | (with_reducible exact LeO.none _)
      | (with_reducible refine LeO.ite ?_ ?_)
      | (with_reducible refine LeO.bind ?_ (fun _ => ?_))
      | exact ih0 _
      | exact ih1 _ _ _ _ _ _ _ _ _ _
      | exact ih2 _ _ _ _ _ _ _ _
      | exact impl_CloseLane.mono _ _ _ _ _
      | exact impl_FlowOk.mono _ _ _ _
      | exact impl_NewInit.mono _ _ _ _ _
      | exact impl_OpenLane.mono _ _ _ _ _
      | exact spec_DrawNewInit.mono _ _
      | exact spec_DrawOpenLane.mono _ _
      | exact spec_NewInit.mono _ _ _ _ _
      | exact spec_OpenLane.mono _ _ _ _ _
      | exact LeO.none _
      | refine LeO.ite ?_ ?_
      | refine LeO.bind ?_ (fun _ => ?_)
theorem laws_FnLanes.mono : ∀ a0 k, LeO (laws_FnLanes.f k a0) (laws_FnLanes.f (k + 1) a0) := by
  intro a0 k
  obtain ⟨ih0, ih1, ih2⟩ := laws_FnLanes.mono_l k
  unfold laws_FnLanes.f
  repeat' first
      | (with_reducible exact ih0 _)
      | (with_reducible exact ih1 _ _ _ _ _ _ _ _ _ _)
      | (with_reducible exact ih2 _ _ _ _ _ _ _ _)
      | (with_reducible exact impl_CloseLane.mono _ _ _ _ _)
      | (with_reducible exact impl_FlowOk.mono _ _ _ _)
      | (with_reducible exact impl_NewInit.mono _ _ _ _ _)
      | (with_reducible exact impl_OpenLane.mono _ _ _ _ _)
      | (with_reducible exact spec_DrawNewInit.mono _ _)
      | (with_reducible exact spec_DrawOpenLane.mono _ _)
      | (with_reducible exact spec_NewInit.mono _ _ _ _ _)
      | (with_reducible exact spec_OpenLane.mono _ _ _ _ _)
      | (with_reducible exact LeO.refl _)
      | (with_reducible exact LeO.none _)
      | (with_reducible refine LeO.ite ?_ ?_)
      | (with_reducible refine LeO.bind ?_ (fun _ => ?_))
      | exact ih0 _
      | exact ih1 _ _ _ _ _ _ _ _ _ _
      | exact ih2 _ _ _ _ _ _ _ _
      | exact impl_CloseLane.mono _ _ _ _ _
      | exact impl_FlowOk.mono _ _ _ _
      | exact impl_NewInit.mono _ _ _ _ _
      | exact impl_OpenLane.mono _ _ _ _ _
      | exact spec_DrawNewInit.mono _ _
      | exact spec_DrawOpenLane.mono _ _
      | exact spec_NewInit.mono _ _ _ _ _
      | exact spec_OpenLane.mono _ _ _ _ _
      | exact LeO.none _
      | refine LeO.ite ?_ ?_
      | refine LeO.bind ?_ (fun _ => ?_)
set_option maxHeartbeats 8000000 in
set_option maxRecDepth 100000 in
theorem laws_FnLanes.calls (k : Nat) (A0 : Option Addr) (c0 : Nat) (l0 : List Int) (r : Bool) (w : World) (hr0 : Kd.C (Kd.int .u8) w A0 l0.length l0) (hc0 : l0.length ≤ c0) (h : laws_FnLanes.f k l0 = some r) :
    Calls Try.prog 12 #[.slice A0 l0.length c0] w fun e w' => e = .returned (.bool r) ∧ Below w.heap.size w w' := by
  have hu24 := Try.underlying24
  have hfd24_1 : ∀ (v0 v1 v2 : Value) (W : World), (Instr.field 24 (.agg #[v0, v1, v2]) 1).run Try.prog W = .ok v1 W := fun v0 v1 v2 W => by rfl
  have HR0 := Aside0.mk hr0
  have HC0 := Aside0.mk hc0
  clear hr0 hc0
  have HB := As_ (Below.refl w.heap.size w)
  have H : ((laws_big.f l0).bind fun t483 => (if t483 = true then (some true) else ((spec_DrawOpenLane.f k l0).bind fun bt484 => ((impl_OpenLane.f k bt484.1 bt484.2.1 bt484.2.2.1 bt484.2.2.2).bind fun bt491 => ((spec_OpenLane.f k bt484.1 bt484.2.1 bt484.2.2.1 bt484.2.2.2).bind fun bt498 => (if (bt491.2.2.2 != bt498.2.2.2) = true then (none) else (if bt491.2.2.2 = true then ((impl_CloseLane.f k bt491.1 bt491.2.1 bt491.2.2.1 bt484.2.2.2).bind fun bt505 => (if bt505.2.2.2 = true then (if (bt505.2.2.1.length : Int) = (bt484.2.2.1.length : Int) then (if (bt491.2.2.1.length : Int) = (wrap64 ((bt484.2.2.1.length : Int) + 1)) then ((impl_FlowOk.f k bt491.1 bt491.2.1 bt491.2.2.1).bind fun t512 => (if t512 = true then (laws_FnLanes.j0 k l0) else (none))) else (none)) else (none)) else (none))) else (laws_FnLanes.j0 k l0)))))))) = some r := h
  clear h
  replace H := Option.bind_eq_some_iff.mp H
  obtain ⟨t483, A20, H⟩ := H
  replace H : (if t483 = true then (some true) else ((spec_DrawOpenLane.f k l0).bind fun bt484 => ((impl_OpenLane.f k bt484.1 bt484.2.1 bt484.2.2.1 bt484.2.2.2).bind fun bt491 => ((spec_OpenLane.f k bt484.1 bt484.2.1 bt484.2.2.1 bt484.2.2.2).bind fun bt498 => (if (bt491.2.2.2 != bt498.2.2.2) = true then (none) else (if bt491.2.2.2 = true then ((impl_CloseLane.f k bt491.1 bt491.2.1 bt491.2.2.1 bt484.2.2.2).bind fun bt505 => (if bt505.2.2.2 = true then (if (bt505.2.2.1.length : Int) = (bt484.2.2.1.length : Int) then (if (bt491.2.2.1.length : Int) = (wrap64 ((bt484.2.2.1.length : Int) + 1)) then ((impl_FlowOk.f k bt491.1 bt491.2.1 bt491.2.2.1).bind fun t512 => (if t512 = true then (laws_FnLanes.j0 k l0) else (none))) else (none)) else (none)) else (none))) else (laws_FnLanes.j0 k l0))))))) = some r := H
  have A2 := Aside0.mk A20
  clear A20
  by_cases c3 : t483 = true
  · subst c3
    have H1 : (some true) = some r := by rw [if_pos rfl] at H; exact H
    clear H
    have H := H1
    clear H1
    obtain rfl := Option.some.inj H
    go_enter Try.func12, Try.ntmps12
    go_wp2_with (first | (go_at_call 32; (with_reducible refine (laws_big.calls _ _ l0 true _ ?side1 ?side2 A2.out).mono ?_); (case side1 => repeat (first | exact HR0.out | (with_reducible first | apply cA_ | apply cN_ | apply cD_))); (case side2 => exact HC0.out); rintro e w' ⟨rfl, ⟨nd, rfl⟩⟩; (try first | exact ⟨rfl, _, World.drewN_drewN _ _ _⟩ | exact ⟨rfl, _, Eq.trans (World.drewN_drewN _ _ _) (congrArg (World.drewN _) (Nat.add_assoc _ _ _))⟩)))
    repeat (go_quiet (first | (go_at_call 32; (with_reducible refine (laws_big.calls _ _ l0 true _ ?side1 ?side2 A2.out).mono ?_); (case side1 => repeat (first | exact HR0.out | (with_reducible first | apply cA_ | apply cN_ | apply cD_))); (case side2 => exact HC0.out); rintro e w' ⟨rfl, ⟨nd, rfl⟩⟩; (try first | exact ⟨rfl, _, World.drewN_drewN _ _ _⟩ | exact ⟨rfl, _, Eq.trans (World.drewN_drewN _ _ _) (congrArg (World.drewN _) (Nat.add_assoc _ _ _))⟩))); try go_wp2_with (first | (go_at_call 32; (with_reducible refine (laws_big.calls _ _ l0 true _ ?side1 ?side2 A2.out).mono ?_); (case side1 => repeat (first | exact HR0.out | (with_reducible first | apply cA_ | apply cN_ | apply cD_))); (case side2 => exact HC0.out); rintro e w' ⟨rfl, ⟨nd, rfl⟩⟩; (try first | exact ⟨rfl, _, World.drewN_drewN _ _ _⟩ | exact ⟨rfl, _, Eq.trans (World.drewN_drewN _ _ _) (congrArg (World.drewN _) (Nat.add_assoc _ _ _))⟩))))
    go_ret
    exact ⟨by first | rfl | (simp [errW_none, errW_some] <;> rfl) | (simp [*, errW_none, errW_some] <;> rfl), zb0_ HB.out⟩
  · replace c3 := Bool.eq_false_iff.mpr c3
    subst c3
    have H1 : ((spec_DrawOpenLane.f k l0).bind fun bt484 => ((impl_OpenLane.f k bt484.1 bt484.2.1 bt484.2.2.1 bt484.2.2.2).bind fun bt491 => ((spec_OpenLane.f k bt484.1 bt484.2.1 bt484.2.2.1 bt484.2.2.2).bind fun bt498 => (if (bt491.2.2.2 != bt498.2.2.2) = true then (none) else (if bt491.2.2.2 = true then ((impl_CloseLane.f k bt491.1 bt491.2.1 bt491.2.2.1 bt484.2.2.2).bind fun bt505 => (if bt505.2.2.2 = true then (if (bt505.2.2.1.length : Int) = (bt484.2.2.1.length : Int) then (if (bt491.2.2.1.length : Int) = (wrap64 ((bt484.2.2.1.length : Int) + 1)) then ((impl_FlowOk.f k bt491.1 bt491.2.1 bt491.2.2.1).bind fun t512 => (if t512 = true then (laws_FnLanes.j0 k l0) else (none))) else (none)) else (none)) else (none))) else (laws_FnLanes.j0 k l0)))))) = some r := by rw [if_neg (show ¬ (false = true) by decide)] at H; exact H
    clear H
    have H := H1
    clear H1
    replace H := Option.bind_eq_some_iff.mp H
    obtain ⟨⟨t484, t485, t486, t489⟩, A40, H⟩ := H
    replace H : ((impl_OpenLane.f k t484 t485 t486 t489).bind fun bt491 => ((spec_OpenLane.f k t484 t485 t486 t489).bind fun bt498 => (if (bt491.2.2.2 != bt498.2.2.2) = true then (none) else (if bt491.2.2.2 = true then ((impl_CloseLane.f k bt491.1 bt491.2.1 bt491.2.2.1 t489).bind fun bt505 => (if bt505.2.2.2 = true then (if (bt505.2.2.1.length : Int) = (t486.length : Int) then (if (bt491.2.2.1.length : Int) = (wrap64 ((t486.length : Int) + 1)) then ((impl_FlowOk.f k bt491.1 bt491.2.1 bt491.2.2.1).bind fun t512 => (if t512 = true then (laws_FnLanes.j0 k l0) else (none))) else (none)) else (none)) else (none))) else (laws_FnLanes.j0 k l0))))) = some r := H
    have A4 := Aside0.mk A40
    clear A40
    replace H := Option.bind_eq_some_iff.mp H
    obtain ⟨⟨t491, t492, t493, t496⟩, A50, H⟩ := H
    replace H : ((spec_OpenLane.f k t484 t485 t486 t489).bind fun bt498 => (if (t496 != bt498.2.2.2) = true then (none) else (if t496 = true then ((impl_CloseLane.f k t491 t492 t493 t489).bind fun bt505 => (if bt505.2.2.2 = true then (if (bt505.2.2.1.length : Int) = (t486.length : Int) then (if (t493.length : Int) = (wrap64 ((t486.length : Int) + 1)) then ((impl_FlowOk.f k t491 t492 t493).bind fun t512 => (if t512 = true then (laws_FnLanes.j0 k l0) else (none))) else (none)) else (none)) else (none))) else (laws_FnLanes.j0 k l0)))) = some r := H
    have A5 := Aside0.mk A50
    clear A50
    replace H := Option.bind_eq_some_iff.mp H
    obtain ⟨⟨t498, t499, t500, t503⟩, A60, H⟩ := H
    replace H : (if (t496 != t503) = true then (none) else (if t496 = true then ((impl_CloseLane.f k t491 t492 t493 t489).bind fun bt505 => (if bt505.2.2.2 = true then (if (bt505.2.2.1.length : Int) = (t486.length : Int) then (if (t493.length : Int) = (wrap64 ((t486.length : Int) + 1)) then ((impl_FlowOk.f k t491 t492 t493).bind fun t512 => (if t512 = true then (laws_FnLanes.j0 k l0) else (none))) else (none)) else (none)) else (none))) else (laws_FnLanes.j0 k l0))) = some r := H
    have A6 := Aside0.mk A60
    clear A60
    by_cases c7 : (t496 != t503) = true
    · rw [if_pos c7] at H
      exact absurd H (by simp)
    · rw [if_neg c7] at H
      have c7b0 : (t496 != t503) = false := by simpa using c7
      (try (have c7b1 : decide (t496 = t503) = true := by simpa using c7))
      (try (have c7b2 : (t496 == t503) = true := by simpa using c7))
      clear c7
      have HC8 := Aside0.mk H
      clear H
      go_enter Try.func12, Try.ntmps12
      go_upto_if 40 with (first | (go_at_call 32; (with_reducible refine (laws_big.calls _ _ l0 false _ ?side1 ?side2 A2.out).mono ?_); (case side1 => repeat (first | exact HR0.out | (with_reducible first | apply cA_ | apply cN_ | apply cD_))); (case side2 => exact HC0.out); rintro e w' ⟨rfl, ⟨nd, rfl⟩⟩; (try first | exact ⟨rfl, _, World.drewN_drewN _ _ _⟩ | exact ⟨rfl, _, Eq.trans (World.drewN_drewN _ _ _) (congrArg (World.drewN _) (Nat.add_assoc _ _ _))⟩)) | (go_at_call 36; (with_reducible refine (spec_DrawOpenLane.calls k _ _ l0 t484 t485 t486 t489 _ ?side1 ?side2 A4.out).mono ?_); (case side1 => repeat (first | exact HR0.out | (with_reducible first | apply cA_ | apply cN_ | apply cD_))); (case side2 => exact HC0.out); rintro e w9 ⟨v487, rfl, ho0, hb⟩; have HO488 := As_ (Kd.R_lower ho0 (below_size (zb0_ HB.out))); replace HB := As_ (below_step (zb0_ HB.out) hb); (try clear hb); (try clear hb2); (try clear hk); (try clear hi); (try clear ho0)) | ((with_reducible refine gate_dst (N := 3) rfl ?_); (try (refine gate_guard (by rfl) ?_; dsimp only)); refine box_event ?hg (N := 3) ?hd (cs := #[.int .i64 0, .int .i64 0, .slice none 0 0]) (t := 24) ?hr ?_; (case hd => rfl); (case hg => rfl); (case hr => first | (go_simp; done) | (go_simp; rfl)); intro gb490 hg w10 hbox hb; have n0_ := As_ (Kd.R_below (rk_ HO488.out) hb); have n1_ := As_ (below_step (zb0_ HB.out) hb); have n2_ := As_ (hbox); have n3_ := As_ ((sb_ hg (zb0_ HB.out) : w.heap.size ≤ gb490)); have n4_ := As_ ((sb_ hg (zb0_ HB.out) : w.heap.size ≤ gb490)); clear HO488 HB; have HO488 := n0_; have HB := n1_; have BK490 := n2_; have GW490 := n3_; have GE490 := n4_; clear n0_ n1_ n2_ n3_ n4_ hb hbox hg; obtain ⟨hcz11_0, hcz11_1, hcz11_2, hfz11_0, hfz11_1, hfz11_2⟩ := blk_all3 BK490.out; obtain ⟨Ao12, co12, eo12⟩ := Kd.R_slice HO488.out; subst eo12) | (go_at_call 35; (with_reducible refine (impl_OpenLane.calls k t484 t485 _ _ t486 t489 t491 t492 t493 t496 _ ?side1 ?side2 A5.out).mono ?_); (case side1 => refine (Kd.R_reads' (e := 48) (base := w.heap.size) (ok := fun k_ => True) (n := t486.length) (c := co12) ?_).2.2; exact (rf3_ HO488.out BK490.out)); (case side2 => exact (Kd.R_reads' HO488.out).2.1); rintro e w13 ⟨v494, rfl, ho0, hb⟩; have n0_ := As_ (Kd.R_elder' (rf3_ HO488.out BK490.out) (Kd.R_base ho0) hb); have HO495 := As_ (Kd.R_lower (Kd.R_new' ho0 (Kd.R_lt (rf3_ HO488.out BK490.out))) (below_size (zb1_ HB.out GE490.out))); replace BK490 := As_ (blk_below (g := gb490) (o := .cells #[.int .i64 t484, .int .i64 t485, .slice Ao12 t486.length co12] 24 (0, 0)) (ap_ BK490.out) hb); replace HB := As_ (below_step (zb1_ HB.out GE490.out) hb); clear HO488; have HO488 := n0_; clear n0_; (try clear hb); (try clear hb2); (try clear hk); (try clear hi); (try clear ho0)) | ((with_reducible refine gate_dst (N := 5) rfl ?_); (try (refine gate_guard (by rfl) ?_; dsimp only)); refine box_event ?hg (N := 5) ?hd (cs := #[.int .i64 0, .int .i64 0, .slice none 0 0]) (t := 24) ?hr ?_; (case hd => rfl); (case hg => rfl); (case hr => first | (go_simp; done) | (go_simp; rfl)); intro gb497 hg w14 hbox hb; have n0_ := As_ (Kd.R_below (rk_ HO488.out) hb); have n1_ := As_ (Kd.R_below (rk_ HO495.out) hb); have n2_ := As_ (blk_below (g := gb490) (o := .cells #[.int .i64 t484, .int .i64 t485, .slice Ao12 t486.length co12] 24 (0, 0)) (ak_ BK490.out) hb); have n3_ := As_ (below_step (zb1_ HB.out GE490.out) hb); have n4_ := As_ (hbox); have n5_ := As_ ((sb_ hg (zb1_ HB.out GE490.out) : w.heap.size ≤ gb497)); have n6_ := As_ ((sb_ hg (zb1_ HB.out GE490.out) : w.heap.size ≤ gb497)); have n7_ := As_ ((nl_ hg BK490.out : gb490 ≠ gb497)); have n8_ := As_ ((ng_ hg BK490.out : gb497 ≠ gb490)); clear HO488 HO495 BK490 HB; have HO488 := n0_; have HO495 := n1_; have BK490 := n2_; have HB := n3_; have BK497 := n4_; have GW497 := n5_; have GE497 := n6_; have NB490_497 := n7_; have NB497_490 := n8_; clear n0_ n1_ n2_ n3_ n4_ n5_ n6_ n7_ n8_ hb hbox hg; have hnb15 := NB497_490.out; have hnc15 := NB490_497.out; obtain ⟨hcz16_0, hcz16_1, hcz16_2, hfz16_0, hfz16_1, hfz16_2⟩ := blk_all3 BK497.out; obtain ⟨Ao17, co17, eo17⟩ := Kd.R_slice HO495.out; subst eo17; obtain ⟨hcz18_0, hcz18_1, hcz18_2, hfz18_0, hfz18_1, hfz18_2⟩ := blk_all3 BK490.out) | (go_at_call 34; (with_reducible refine (spec_OpenLane.calls k t484 t485 _ _ t486 t489 t498 t499 t500 t503 _ ?side1 ?side2 A6.out).mono ?_); (case side1 => refine (Kd.R_reads' (e := 48) (base := w.heap.size) (ok := fun k_ => (True ∧ some k_ ≠ (.slice Ao17 t493.length co17 : Value).ownBlock)) (n := t486.length) (c := co12) ?_).2.2; exact (rf3_ HO488.out BK497.out)); (case side2 => exact (Kd.R_reads' HO488.out).2.1); rintro e w19 ⟨v501, rfl, ho0, hb⟩; have n0_ := As_ (Kd.R_elder' (rf3_ HO488.out BK497.out) (Kd.R_base ho0) hb); have n1_ := As_ (Kd.R_elder' (rf3_ HO495.out BK497.out) (Kd.R_base ho0) hb); have HO502 := As_ (Kd.R_lower (Kd.R_new' (Kd.R_new' ho0 (Kd.R_lt (rf3_ HO488.out BK497.out))) (Kd.R_lt (rf3_ HO495.out BK497.out))) (below_size (zb2_ HB.out GE490.out GE497.out))); replace BK490 := As_ (blk_below (g := gb490) (o := .cells #[.int .i64 t484, .int .i64 t485, .slice Ao12 t486.length co12] 24 (0, 0)) (af_ NB490_497.out BK490.out) hb); replace BK497 := As_ (blk_below (g := gb497) (o := .cells #[.int .i64 t491, .int .i64 t492, .slice Ao17 t493.length co17] 24 (0, 0)) (ap_ BK497.out) hb); replace HB := As_ (below_step (zb2_ HB.out GE490.out GE497.out) hb); clear HO488 HO495; have HO488 := n0_; have HO495 := n1_; clear n0_ n1_; (try clear hb); (try clear hb2); (try clear hk); (try clear hi); (try clear ho0)) | ((with_reducible refine gate_dst (N := 7) rfl ?_); (try (refine gate_guard (by rfl) ?_; dsimp only)); refine box_event ?hg (N := 7) ?hd (cs := #[.int .i64 0, .int .i64 0, .slice none 0 0]) (t := 24) ?hr ?_; (case hd => rfl); (case hg => rfl); (case hr => first | (go_simp; done) | (go_simp; rfl)); intro gb504 hg w20 hbox hb; have n0_ := As_ (Kd.R_below (rk_ HO488.out) hb); have n1_ := As_ (Kd.R_below (rk_ HO495.out) hb); have n2_ := As_ (Kd.R_below (rk_ HO502.out) hb); have n3_ := As_ (blk_below (g := gb490) (o := .cells #[.int .i64 t484, .int .i64 t485, .slice Ao12 t486.length co12] 24 (0, 0)) (ak_ BK490.out) hb); have n4_ := As_ (blk_below (g := gb497) (o := .cells #[.int .i64 t491, .int .i64 t492, .slice Ao17 t493.length co17] 24 (0, 0)) (ak_ BK497.out) hb); have n5_ := As_ (below_step (zb2_ HB.out GE490.out GE497.out) hb); have n6_ := As_ (hbox); have n7_ := As_ ((sb_ hg (zb2_ HB.out GE490.out GE497.out) : w.heap.size ≤ gb504)); have n8_ := As_ ((sb_ hg (zb2_ HB.out GE490.out GE497.out) : w.heap.size ≤ gb504)); have n9_ := As_ ((nl_ hg BK490.out : gb490 ≠ gb504)); have n10_ := As_ ((ng_ hg BK490.out : gb504 ≠ gb490)); have n11_ := As_ ((nl_ hg BK497.out : gb497 ≠ gb504)); have n12_ := As_ ((ng_ hg BK497.out : gb504 ≠ gb497)); clear HO488 HO495 HO502 BK490 BK497 HB; have HO488 := n0_; have HO495 := n1_; have HO502 := n2_; have BK490 := n3_; have BK497 := n4_; have HB := n5_; have BK504 := n6_; have GW504 := n7_; have GE504 := n8_; have NB490_504 := n9_; have NB504_490 := n10_; have NB497_504 := n11_; have NB504_497 := n12_; clear n0_ n1_ n2_ n3_ n4_ n5_ n6_ n7_ n8_ n9_ n10_ n11_ n12_ hb hbox hg; have hnb21 := NB504_490.out; have hnc21 := NB490_504.out; have hnb22 := NB504_497.out; have hnc22 := NB497_504.out; obtain ⟨hcz23_0, hcz23_1, hcz23_2, hfz23_0, hfz23_1, hfz23_2⟩ := blk_all3 BK504.out; obtain ⟨Ao24, co24, eo24⟩ := Kd.R_slice HO502.out; subst eo24))
      repeat (go_quiet (first | (go_at_call 32; (with_reducible refine (laws_big.calls _ _ l0 false _ ?side1 ?side2 A2.out).mono ?_); (case side1 => repeat (first | exact HR0.out | (with_reducible first | apply cA_ | apply cN_ | apply cD_))); (case side2 => exact HC0.out); rintro e w' ⟨rfl, ⟨nd, rfl⟩⟩; (try first | exact ⟨rfl, _, World.drewN_drewN _ _ _⟩ | exact ⟨rfl, _, Eq.trans (World.drewN_drewN _ _ _) (congrArg (World.drewN _) (Nat.add_assoc _ _ _))⟩)) | (go_at_call 36; (with_reducible refine (spec_DrawOpenLane.calls k _ _ l0 t484 t485 t486 t489 _ ?side1 ?side2 A4.out).mono ?_); (case side1 => repeat (first | exact HR0.out | (with_reducible first | apply cA_ | apply cN_ | apply cD_))); (case side2 => exact HC0.out); rintro e w9 ⟨v487, rfl, ho0, hb⟩; have HO488 := As_ (Kd.R_lower ho0 (below_size (zb0_ HB.out))); replace HB := As_ (below_step (zb0_ HB.out) hb); (try clear hb); (try clear hb2); (try clear hk); (try clear hi); (try clear ho0)) | ((with_reducible refine gate_dst (N := 3) rfl ?_); (try (refine gate_guard (by rfl) ?_; dsimp only)); refine box_event ?hg (N := 3) ?hd (cs := #[.int .i64 0, .int .i64 0, .slice none 0 0]) (t := 24) ?hr ?_; (case hd => rfl); (case hg => rfl); (case hr => first | (go_simp; done) | (go_simp; rfl)); intro gb490 hg w10 hbox hb; have n0_ := As_ (Kd.R_below (rk_ HO488.out) hb); have n1_ := As_ (below_step (zb0_ HB.out) hb); have n2_ := As_ (hbox); have n3_ := As_ ((sb_ hg (zb0_ HB.out) : w.heap.size ≤ gb490)); have n4_ := As_ ((sb_ hg (zb0_ HB.out) : w.heap.size ≤ gb490)); clear HO488 HB; have HO488 := n0_; have HB := n1_; have BK490 := n2_; have GW490 := n3_; have GE490 := n4_; clear n0_ n1_ n2_ n3_ n4_ hb hbox hg; obtain ⟨hcz11_0, hcz11_1, hcz11_2, hfz11_0, hfz11_1, hfz11_2⟩ := blk_all3 BK490.out; obtain ⟨Ao12, co12, eo12⟩ := Kd.R_slice HO488.out; subst eo12) | (go_at_call 35; (with_reducible refine (impl_OpenLane.calls k t484 t485 _ _ t486 t489 t491 t492 t493 t496 _ ?side1 ?side2 A5.out).mono ?_); (case side1 => refine (Kd.R_reads' (e := 48) (base := w.heap.size) (ok := fun k_ => True) (n := t486.length) (c := co12) ?_).2.2; exact (rf3_ HO488.out BK490.out)); (case side2 => exact (Kd.R_reads' HO488.out).2.1); rintro e w13 ⟨v494, rfl, ho0, hb⟩; have n0_ := As_ (Kd.R_elder' (rf3_ HO488.out BK490.out) (Kd.R_base ho0) hb); have HO495 := As_ (Kd.R_lower (Kd.R_new' ho0 (Kd.R_lt (rf3_ HO488.out BK490.out))) (below_size (zb1_ HB.out GE490.out))); replace BK490 := As_ (blk_below (g := gb490) (o := .cells #[.int .i64 t484, .int .i64 t485, .slice Ao12 t486.length co12] 24 (0, 0)) (ap_ BK490.out) hb); replace HB := As_ (below_step (zb1_ HB.out GE490.out) hb); clear HO488; have HO488 := n0_; clear n0_; (try clear hb); (try clear hb2); (try clear hk); (try clear hi); (try clear ho0)) | ((with_reducible refine gate_dst (N := 5) rfl ?_); (try (refine gate_guard (by rfl) ?_; dsimp only)); refine box_event ?hg (N := 5) ?hd (cs := #[.int .i64 0, .int .i64 0, .slice none 0 0]) (t := 24) ?hr ?_; (case hd => rfl); (case hg => rfl); (case hr => first | (go_simp; done) | (go_simp; rfl)); intro gb497 hg w14 hbox hb; have n0_ := As_ (Kd.R_below (rk_ HO488.out) hb); have n1_ := As_ (Kd.R_below (rk_ HO495.out) hb); have n2_ := As_ (blk_below (g := gb490) (o := .cells #[.int .i64 t484, .int .i64 t485, .slice Ao12 t486.length co12] 24 (0, 0)) (ak_ BK490.out) hb); have n3_ := As_ (below_step (zb1_ HB.out GE490.out) hb); have n4_ := As_ (hbox); have n5_ := As_ ((sb_ hg (zb1_ HB.out GE490.out) : w.heap.size ≤ gb497)); have n6_ := As_ ((sb_ hg (zb1_ HB.out GE490.out) : w.heap.size ≤ gb497)); have n7_ := As_ ((nl_ hg BK490.out : gb490 ≠ gb497)); have n8_ := As_ ((ng_ hg BK490.out : gb497 ≠ gb490)); clear HO488 HO495 BK490 HB; have HO488 := n0_; have HO495 := n1_; have BK490 := n2_; have HB := n3_; have BK497 := n4_; have GW497 := n5_; have GE497 := n6_; have NB490_497 := n7_; have NB497_490 := n8_; clear n0_ n1_ n2_ n3_ n4_ n5_ n6_ n7_ n8_ hb hbox hg; have hnb15 := NB497_490.out; have hnc15 := NB490_497.out; obtain ⟨hcz16_0, hcz16_1, hcz16_2, hfz16_0, hfz16_1, hfz16_2⟩ := blk_all3 BK497.out; obtain ⟨Ao17, co17, eo17⟩ := Kd.R_slice HO495.out; subst eo17; obtain ⟨hcz18_0, hcz18_1, hcz18_2, hfz18_0, hfz18_1, hfz18_2⟩ := blk_all3 BK490.out) | (go_at_call 34; (with_reducible refine (spec_OpenLane.calls k t484 t485 _ _ t486 t489 t498 t499 t500 t503 _ ?side1 ?side2 A6.out).mono ?_); (case side1 => refine (Kd.R_reads' (e := 48) (base := w.heap.size) (ok := fun k_ => (True ∧ some k_ ≠ (.slice Ao17 t493.length co17 : Value).ownBlock)) (n := t486.length) (c := co12) ?_).2.2; exact (rf3_ HO488.out BK497.out)); (case side2 => exact (Kd.R_reads' HO488.out).2.1); rintro e w19 ⟨v501, rfl, ho0, hb⟩; have n0_ := As_ (Kd.R_elder' (rf3_ HO488.out BK497.out) (Kd.R_base ho0) hb); have n1_ := As_ (Kd.R_elder' (rf3_ HO495.out BK497.out) (Kd.R_base ho0) hb); have HO502 := As_ (Kd.R_lower (Kd.R_new' (Kd.R_new' ho0 (Kd.R_lt (rf3_ HO488.out BK497.out))) (Kd.R_lt (rf3_ HO495.out BK497.out))) (below_size (zb2_ HB.out GE490.out GE497.out))); replace BK490 := As_ (blk_below (g := gb490) (o := .cells #[.int .i64 t484, .int .i64 t485, .slice Ao12 t486.length co12] 24 (0, 0)) (af_ NB490_497.out BK490.out) hb); replace BK497 := As_ (blk_below (g := gb497) (o := .cells #[.int .i64 t491, .int .i64 t492, .slice Ao17 t493.length co17] 24 (0, 0)) (ap_ BK497.out) hb); replace HB := As_ (below_step (zb2_ HB.out GE490.out GE497.out) hb); clear HO488 HO495; have HO488 := n0_; have HO495 := n1_; clear n0_ n1_; (try clear hb); (try clear hb2); (try clear hk); (try clear hi); (try clear ho0)) | ((with_reducible refine gate_dst (N := 7) rfl ?_); (try (refine gate_guard (by rfl) ?_; dsimp only)); refine box_event ?hg (N := 7) ?hd (cs := #[.int .i64 0, .int .i64 0, .slice none 0 0]) (t := 24) ?hr ?_; (case hd => rfl); (case hg => rfl); (case hr => first | (go_simp; done) | (go_simp; rfl)); intro gb504 hg w20 hbox hb; have n0_ := As_ (Kd.R_below (rk_ HO488.out) hb); have n1_ := As_ (Kd.R_below (rk_ HO495.out) hb); have n2_ := As_ (Kd.R_below (rk_ HO502.out) hb); have n3_ := As_ (blk_below (g := gb490) (o := .cells #[.int .i64 t484, .int .i64 t485, .slice Ao12 t486.length co12] 24 (0, 0)) (ak_ BK490.out) hb); have n4_ := As_ (blk_below (g := gb497) (o := .cells #[.int .i64 t491, .int .i64 t492, .slice Ao17 t493.length co17] 24 (0, 0)) (ak_ BK497.out) hb); have n5_ := As_ (below_step (zb2_ HB.out GE490.out GE497.out) hb); have n6_ := As_ (hbox); have n7_ := As_ ((sb_ hg (zb2_ HB.out GE490.out GE497.out) : w.heap.size ≤ gb504)); have n8_ := As_ ((sb_ hg (zb2_ HB.out GE490.out GE497.out) : w.heap.size ≤ gb504)); have n9_ := As_ ((nl_ hg BK490.out : gb490 ≠ gb504)); have n10_ := As_ ((ng_ hg BK490.out : gb504 ≠ gb490)); have n11_ := As_ ((nl_ hg BK497.out : gb497 ≠ gb504)); have n12_ := As_ ((ng_ hg BK497.out : gb504 ≠ gb497)); clear HO488 HO495 HO502 BK490 BK497 HB; have HO488 := n0_; have HO495 := n1_; have HO502 := n2_; have BK490 := n3_; have BK497 := n4_; have HB := n5_; have BK504 := n6_; have GW504 := n7_; have GE504 := n8_; have NB490_504 := n9_; have NB504_490 := n10_; have NB497_504 := n11_; have NB504_497 := n12_; clear n0_ n1_ n2_ n3_ n4_ n5_ n6_ n7_ n8_ n9_ n10_ n11_ n12_ hb hbox hg; have hnb21 := NB504_490.out; have hnc21 := NB490_504.out; have hnb22 := NB504_497.out; have hnc22 := NB497_504.out; obtain ⟨hcz23_0, hcz23_1, hcz23_2, hfz23_0, hfz23_1, hfz23_2⟩ := blk_all3 BK504.out; obtain ⟨Ao24, co24, eo24⟩ := Kd.R_slice HO502.out; subst eo24)); go_upto_if 40 with (first | (go_at_call 32; (with_reducible refine (laws_big.calls _ _ l0 false _ ?side1 ?side2 A2.out).mono ?_); (case side1 => repeat (first | exact HR0.out | (with_reducible first | apply cA_ | apply cN_ | apply cD_))); (case side2 => exact HC0.out); rintro e w' ⟨rfl, ⟨nd, rfl⟩⟩; (try first | exact ⟨rfl, _, World.drewN_drewN _ _ _⟩ | exact ⟨rfl, _, Eq.trans (World.drewN_drewN _ _ _) (congrArg (World.drewN _) (Nat.add_assoc _ _ _))⟩)) | (go_at_call 36; (with_reducible refine (spec_DrawOpenLane.calls k _ _ l0 t484 t485 t486 t489 _ ?side1 ?side2 A4.out).mono ?_); (case side1 => repeat (first | exact HR0.out | (with_reducible first | apply cA_ | apply cN_ | apply cD_))); (case side2 => exact HC0.out); rintro e w9 ⟨v487, rfl, ho0, hb⟩; have HO488 := As_ (Kd.R_lower ho0 (below_size (zb0_ HB.out))); replace HB := As_ (below_step (zb0_ HB.out) hb); (try clear hb); (try clear hb2); (try clear hk); (try clear hi); (try clear ho0)) | ((with_reducible refine gate_dst (N := 3) rfl ?_); (try (refine gate_guard (by rfl) ?_; dsimp only)); refine box_event ?hg (N := 3) ?hd (cs := #[.int .i64 0, .int .i64 0, .slice none 0 0]) (t := 24) ?hr ?_; (case hd => rfl); (case hg => rfl); (case hr => first | (go_simp; done) | (go_simp; rfl)); intro gb490 hg w10 hbox hb; have n0_ := As_ (Kd.R_below (rk_ HO488.out) hb); have n1_ := As_ (below_step (zb0_ HB.out) hb); have n2_ := As_ (hbox); have n3_ := As_ ((sb_ hg (zb0_ HB.out) : w.heap.size ≤ gb490)); have n4_ := As_ ((sb_ hg (zb0_ HB.out) : w.heap.size ≤ gb490)); clear HO488 HB; have HO488 := n0_; have HB := n1_; have BK490 := n2_; have GW490 := n3_; have GE490 := n4_; clear n0_ n1_ n2_ n3_ n4_ hb hbox hg; obtain ⟨hcz11_0, hcz11_1, hcz11_2, hfz11_0, hfz11_1, hfz11_2⟩ := blk_all3 BK490.out; obtain ⟨Ao12, co12, eo12⟩ := Kd.R_slice HO488.out; subst eo12) | (go_at_call 35; (with_reducible refine (impl_OpenLane.calls k t484 t485 _ _ t486 t489 t491 t492 t493 t496 _ ?side1 ?side2 A5.out).mono ?_); (case side1 => refine (Kd.R_reads' (e := 48) (base := w.heap.size) (ok := fun k_ => True) (n := t486.length) (c := co12) ?_).2.2; exact (rf3_ HO488.out BK490.out)); (case side2 => exact (Kd.R_reads' HO488.out).2.1); rintro e w13 ⟨v494, rfl, ho0, hb⟩; have n0_ := As_ (Kd.R_elder' (rf3_ HO488.out BK490.out) (Kd.R_base ho0) hb); have HO495 := As_ (Kd.R_lower (Kd.R_new' ho0 (Kd.R_lt (rf3_ HO488.out BK490.out))) (below_size (zb1_ HB.out GE490.out))); replace BK490 := As_ (blk_below (g := gb490) (o := .cells #[.int .i64 t484, .int .i64 t485, .slice Ao12 t486.length co12] 24 (0, 0)) (ap_ BK490.out) hb); replace HB := As_ (below_step (zb1_ HB.out GE490.out) hb); clear HO488; have HO488 := n0_; clear n0_; (try clear hb); (try clear hb2); (try clear hk); (try clear hi); (try clear ho0)) | ((with_reducible refine gate_dst (N := 5) rfl ?_); (try (refine gate_guard (by rfl) ?_; dsimp only)); refine box_event ?hg (N := 5) ?hd (cs := #[.int .i64 0, .int .i64 0, .slice none 0 0]) (t := 24) ?hr ?_; (case hd => rfl); (case hg => rfl); (case hr => first | (go_simp; done) | (go_simp; rfl)); intro gb497 hg w14 hbox hb; have n0_ := As_ (Kd.R_below (rk_ HO488.out) hb); have n1_ := As_ (Kd.R_below (rk_ HO495.out) hb); have n2_ := As_ (blk_below (g := gb490) (o := .cells #[.int .i64 t484, .int .i64 t485, .slice Ao12 t486.length co12] 24 (0, 0)) (ak_ BK490.out) hb); have n3_ := As_ (below_step (zb1_ HB.out GE490.out) hb); have n4_ := As_ (hbox); have n5_ := As_ ((sb_ hg (zb1_ HB.out GE490.out) : w.heap.size ≤ gb497)); have n6_ := As_ ((sb_ hg (zb1_ HB.out GE490.out) : w.heap.size ≤ gb497)); have n7_ := As_ ((nl_ hg BK490.out : gb490 ≠ gb497)); have n8_ := As_ ((ng_ hg BK490.out : gb497 ≠ gb490)); clear HO488 HO495 BK490 HB; have HO488 := n0_; have HO495 := n1_; have BK490 := n2_; have HB := n3_; have BK497 := n4_; have GW497 := n5_; have GE497 := n6_; have NB490_497 := n7_; have NB497_490 := n8_; clear n0_ n1_ n2_ n3_ n4_ n5_ n6_ n7_ n8_ hb hbox hg; have hnb15 := NB497_490.out; have hnc15 := NB490_497.out; obtain ⟨hcz16_0, hcz16_1, hcz16_2, hfz16_0, hfz16_1, hfz16_2⟩ := blk_all3 BK497.out; obtain ⟨Ao17, co17, eo17⟩ := Kd.R_slice HO495.out; subst eo17; obtain ⟨hcz18_0, hcz18_1, hcz18_2, hfz18_0, hfz18_1, hfz18_2⟩ := blk_all3 BK490.out) | (go_at_call 34; (with_reducible refine (spec_OpenLane.calls k t484 t485 _ _ t486 t489 t498 t499 t500 t503 _ ?side1 ?side2 A6.out).mono ?_); (case side1 => refine (Kd.R_reads' (e := 48) (base := w.heap.size) (ok := fun k_ => (True ∧ some k_ ≠ (.slice Ao17 t493.length co17 : Value).ownBlock)) (n := t486.length) (c := co12) ?_).2.2; exact (rf3_ HO488.out BK497.out)); (case side2 => exact (Kd.R_reads' HO488.out).2.1); rintro e w19 ⟨v501, rfl, ho0, hb⟩; have n0_ := As_ (Kd.R_elder' (rf3_ HO488.out BK497.out) (Kd.R_base ho0) hb); have n1_ := As_ (Kd.R_elder' (rf3_ HO495.out BK497.out) (Kd.R_base ho0) hb); have HO502 := As_ (Kd.R_lower (Kd.R_new' (Kd.R_new' ho0 (Kd.R_lt (rf3_ HO488.out BK497.out))) (Kd.R_lt (rf3_ HO495.out BK497.out))) (below_size (zb2_ HB.out GE490.out GE497.out))); replace BK490 := As_ (blk_below (g := gb490) (o := .cells #[.int .i64 t484, .int .i64 t485, .slice Ao12 t486.length co12] 24 (0, 0)) (af_ NB490_497.out BK490.out) hb); replace BK497 := As_ (blk_below (g := gb497) (o := .cells #[.int .i64 t491, .int .i64 t492, .slice Ao17 t493.length co17] 24 (0, 0)) (ap_ BK497.out) hb); replace HB := As_ (below_step (zb2_ HB.out GE490.out GE497.out) hb); clear HO488 HO495; have HO488 := n0_; have HO495 := n1_; clear n0_ n1_; (try clear hb); (try clear hb2); (try clear hk); (try clear hi); (try clear ho0)) | ((with_reducible refine gate_dst (N := 7) rfl ?_); (try (refine gate_guard (by rfl) ?_; dsimp only)); refine box_event ?hg (N := 7) ?hd (cs := #[.int .i64 0, .int .i64 0, .slice none 0 0]) (t := 24) ?hr ?_; (case hd => rfl); (case hg => rfl); (case hr => first | (go_simp; done) | (go_simp; rfl)); intro gb504 hg w20 hbox hb; have n0_ := As_ (Kd.R_below (rk_ HO488.out) hb); have n1_ := As_ (Kd.R_below (rk_ HO495.out) hb); have n2_ := As_ (Kd.R_below (rk_ HO502.out) hb); have n3_ := As_ (blk_below (g := gb490) (o := .cells #[.int .i64 t484, .int .i64 t485, .slice Ao12 t486.length co12] 24 (0, 0)) (ak_ BK490.out) hb); have n4_ := As_ (blk_below (g := gb497) (o := .cells #[.int .i64 t491, .int .i64 t492, .slice Ao17 t493.length co17] 24 (0, 0)) (ak_ BK497.out) hb); have n5_ := As_ (below_step (zb2_ HB.out GE490.out GE497.out) hb); have n6_ := As_ (hbox); have n7_ := As_ ((sb_ hg (zb2_ HB.out GE490.out GE497.out) : w.heap.size ≤ gb504)); have n8_ := As_ ((sb_ hg (zb2_ HB.out GE490.out GE497.out) : w.heap.size ≤ gb504)); have n9_ := As_ ((nl_ hg BK490.out : gb490 ≠ gb504)); have n10_ := As_ ((ng_ hg BK490.out : gb504 ≠ gb490)); have n11_ := As_ ((nl_ hg BK497.out : gb497 ≠ gb504)); have n12_ := As_ ((ng_ hg BK497.out : gb504 ≠ gb497)); clear HO488 HO495 HO502 BK490 BK497 HB; have HO488 := n0_; have HO495 := n1_; have HO502 := n2_; have BK490 := n3_; have BK497 := n4_; have HB := n5_; have BK504 := n6_; have GW504 := n7_; have GE504 := n8_; have NB490_504 := n9_; have NB504_490 := n10_; have NB497_504 := n11_; have NB504_497 := n12_; clear n0_ n1_ n2_ n3_ n4_ n5_ n6_ n7_ n8_ n9_ n10_ n11_ n12_ hb hbox hg; have hnb21 := NB504_490.out; have hnc21 := NB490_504.out; have hnb22 := NB504_497.out; have hnc22 := NB497_504.out; obtain ⟨hcz23_0, hcz23_1, hcz23_2, hfz23_0, hfz23_1, hfz23_2⟩ := blk_all3 BK504.out; obtain ⟨Ao24, co24, eo24⟩ := Kd.R_slice HO502.out; subst eo24)))
      (try simp only [Act.put, List.setIfInBounds_toArray, List.set_cons_zero, List.set_cons_succ])
      go_cut [] (fun wc => ∃ (kq : Nat), Aside0 (laws_FnLanes.j0 kq l0 = some r) ∧ Aside0 (kq ≤ k) ∧ Aside0 (Kd.R k48 48 wc w.heap.size (fun k_ => some k_ ≠ ((.slice Ao17 t493.length co17) : Value).ownBlock ∧ some k_ ≠ ((.slice Ao24 t500.length co24) : Value).ownBlock) (.slice Ao12 t486.length co12) t486) ∧ Aside0 (Kd.R k48 48 wc w.heap.size (fun k_ => some k_ ≠ ((.slice Ao12 t486.length co12) : Value).ownBlock ∧ some k_ ≠ ((.slice Ao24 t500.length co24) : Value).ownBlock) (.slice Ao17 t493.length co17) t493) ∧ Aside0 (Kd.R k48 48 wc w.heap.size (fun k_ => some k_ ≠ ((.slice Ao12 t486.length co12) : Value).ownBlock ∧ some k_ ≠ ((.slice Ao17 t493.length co17) : Value).ownBlock) (.slice Ao24 t500.length co24) t500) ∧ Aside0 (wc.heap[gb490]? = some (.cells #[.int .i64 t484, .int .i64 t485, (.slice Ao12 t486.length co12)] 24 (0, 0))) ∧ Aside0 (wc.heap[gb497]? = some (.cells #[.int .i64 t491, .int .i64 t492, (.slice Ao17 t493.length co17)] 24 (0, 0))) ∧ Aside0 (wc.heap[gb504]? = some (.cells #[.int .i64 t498, .int .i64 t499, (.slice Ao24 t500.length co24)] 24 (0, 0))) ∧ Aside0 (Below w.heap.size w wc))
      case first =>
        have H := HC8.out
        clear HC8
        by_cases c25 : t496 = true
        · subst c25
          have H1 : ((impl_CloseLane.f k t491 t492 t493 t489).bind fun bt505 => (if bt505.2.2.2 = true then (if (bt505.2.2.1.length : Int) = (t486.length : Int) then (if (t493.length : Int) = (wrap64 ((t486.length : Int) + 1)) then ((impl_FlowOk.f k t491 t492 t493).bind fun t512 => (if t512 = true then (laws_FnLanes.j0 k l0) else (none))) else (none)) else (none)) else (none))) = some r := by rw [if_pos rfl] at H; exact H
          clear H
          have H := H1
          clear H1
          replace H := Option.bind_eq_some_iff.mp H
          obtain ⟨⟨t505, t506, t507, t510⟩, A260, H⟩ := H
          replace H : (if t510 = true then (if (t507.length : Int) = (t486.length : Int) then (if (t493.length : Int) = (wrap64 ((t486.length : Int) + 1)) then ((impl_FlowOk.f k t491 t492 t493).bind fun t512 => (if t512 = true then (laws_FnLanes.j0 k l0) else (none))) else (none)) else (none)) else (none)) = some r := H
          have A26 := Aside0.mk A260
          clear A260
          by_cases c27 : t510 = true
          · subst c27
            have H1 : (if (t507.length : Int) = (t486.length : Int) then (if (t493.length : Int) = (wrap64 ((t486.length : Int) + 1)) then ((impl_FlowOk.f k t491 t492 t493).bind fun t512 => (if t512 = true then (laws_FnLanes.j0 k l0) else (none))) else (none)) else (none)) = some r := by rw [if_pos rfl] at H; exact H
            clear H
            have H := H1
            clear H1
            by_cases c28 : (t507.length : Int) = (t486.length : Int)
            · rw [if_pos c28] at H
              have c28b0 : ((t507.length : Int) == (t486.length : Int)) = true := beq_iff_eq.mpr c28
              have c28b1 : ((t507.length : Int) != (t486.length : Int)) = false := bne_eq_false_iff_eq.mpr c28
              have c28b2 : (t507.length == t486.length) = true := by first | simpa using c28 | (simp at c28 ⊢; omega)
              clear c28
              (first | rw [c28b0] | (simp only [i64_w, i32_w]; rw [c28b0]) | skip)
              by_cases c29 : (t493.length : Int) = (wrap64 ((t486.length : Int) + 1))
              · rw [if_pos c29] at H
                have c29b0 : ((t493.length : Int) == (wrap64 ((t486.length : Int) + 1))) = true := beq_iff_eq.mpr c29
                have c29b1 : ((t493.length : Int) != (wrap64 ((t486.length : Int) + 1))) = false := bne_eq_false_iff_eq.mpr c29
                clear c29
                replace H := Option.bind_eq_some_iff.mp H
                obtain ⟨t512, A300, H⟩ := H
                replace H : (if t512 = true then (laws_FnLanes.j0 k l0) else (none)) = some r := H
                have A30 := Aside0.mk A300
                clear A300
                by_cases c31 : t512 = true
                · subst c31
                  have H1 : (laws_FnLanes.j0 k l0) = some r := by rw [if_pos rfl] at H; exact H
                  clear H
                  have H := H1
                  clear H1
                  have H' := Aside0.mk H
                  clear H
                  have hnb32 := NB497_490.out
                  have hnc32 := NB490_497.out
                  have hnb33 := NB497_504.out
                  have hnc33 := NB504_497.out
                  obtain ⟨hcz34_0, hcz34_1, hcz34_2, hfz34_0, hfz34_1, hfz34_2⟩ := blk_all3 BK497.out
                  go_wp2_with (first | (go_at_call 27; (with_reducible refine (impl_CloseLane.calls k t491 t492 _ _ t493 t489 t505 t506 t507 true _ ?side1 ?side2 A26.out).mono ?_); (case side1 => refine (Kd.R_reads' (e := 48) (base := w.heap.size) (ok := fun k_ => ((True ∧ some k_ ≠ (.slice Ao12 t486.length co12 : Value).ownBlock) ∧ some k_ ≠ (.slice Ao24 t500.length co24 : Value).ownBlock)) (n := t493.length) (c := co17) ?_).2.2; exact (rf3_ HO495.out BK504.out)); (case side2 => exact (Kd.R_reads' HO495.out).2.1); rintro e w35 ⟨v508, rfl, ho0, hb⟩; have n0_ := As_ (Kd.R_elder' (rf3_ HO488.out BK504.out) (Kd.R_base ho0) hb); have n1_ := As_ (Kd.R_elder' (rf3_ HO495.out BK504.out) (Kd.R_base ho0) hb); have n2_ := As_ (Kd.R_elder' (rf3_ HO502.out BK504.out) (Kd.R_base ho0) hb); have HO509 := As_ (Kd.R_lower (Kd.R_new' (Kd.R_new' (Kd.R_new' ho0 (Kd.R_lt (rf3_ HO488.out BK504.out))) (Kd.R_lt (rf3_ HO495.out BK504.out))) (Kd.R_lt (rf3_ HO502.out BK504.out))) (below_size (zb3_ HB.out GE490.out GE497.out GE504.out))); replace BK490 := As_ (blk_below (g := gb490) (o := .cells #[.int .i64 t484, .int .i64 t485, .slice Ao12 t486.length co12] 24 (0, 0)) (af_ NB490_504.out BK490.out) hb); replace BK497 := As_ (blk_below (g := gb497) (o := .cells #[.int .i64 t491, .int .i64 t492, .slice Ao17 t493.length co17] 24 (0, 0)) (af_ NB497_504.out BK497.out) hb); replace BK504 := As_ (blk_below (g := gb504) (o := .cells #[.int .i64 t498, .int .i64 t499, .slice Ao24 t500.length co24] 24 (0, 0)) (ap_ BK504.out) hb); replace HB := As_ (below_step (zb3_ HB.out GE490.out GE497.out GE504.out) hb); clear HO488 HO495 HO502; have HO488 := n0_; have HO495 := n1_; have HO502 := n2_; clear n0_ n1_ n2_; (try clear hb); (try clear hb2); (try clear hk); (try clear hi); (try clear ho0)) | ((with_reducible refine gate_dst (N := 9) rfl ?_); (try (refine gate_guard (by rfl) ?_; dsimp only)); refine box_event ?hg (N := 9) ?hd (cs := #[.int .i64 0, .int .i64 0, .slice none 0 0]) (t := 24) ?hr ?_; (case hd => rfl); (case hg => rfl); (case hr => first | (go_simp; done) | (go_simp; rfl)); intro gb511 hg w36 hbox hb; have n0_ := As_ (Kd.R_below (rk_ HO488.out) hb); have n1_ := As_ (Kd.R_below (rk_ HO495.out) hb); have n2_ := As_ (Kd.R_below (rk_ HO502.out) hb); have n3_ := As_ (Kd.R_below (rk_ HO509.out) hb); have n4_ := As_ (blk_below (g := gb490) (o := .cells #[.int .i64 t484, .int .i64 t485, .slice Ao12 t486.length co12] 24 (0, 0)) (ak_ BK490.out) hb); have n5_ := As_ (blk_below (g := gb497) (o := .cells #[.int .i64 t491, .int .i64 t492, .slice Ao17 t493.length co17] 24 (0, 0)) (ak_ BK497.out) hb); have n6_ := As_ (blk_below (g := gb504) (o := .cells #[.int .i64 t498, .int .i64 t499, .slice Ao24 t500.length co24] 24 (0, 0)) (ak_ BK504.out) hb); have n7_ := As_ (below_step (zb3_ HB.out GE490.out GE497.out GE504.out) hb); have n8_ := As_ (hbox); have n9_ := As_ ((sb_ hg (zb3_ HB.out GE490.out GE497.out GE504.out) : w.heap.size ≤ gb511)); have n10_ := As_ ((sb_ hg (zb3_ HB.out GE490.out GE497.out GE504.out) : w.heap.size ≤ gb511)); have n11_ := As_ ((nl_ hg BK490.out : gb490 ≠ gb511)); have n12_ := As_ ((ng_ hg BK490.out : gb511 ≠ gb490)); have n13_ := As_ ((nl_ hg BK497.out : gb497 ≠ gb511)); have n14_ := As_ ((ng_ hg BK497.out : gb511 ≠ gb497)); have n15_ := As_ ((nl_ hg BK504.out : gb504 ≠ gb511)); have n16_ := As_ ((ng_ hg BK504.out : gb511 ≠ gb504)); clear HO488 HO495 HO502 HO509 BK490 BK497 BK504 HB; have HO488 := n0_; have HO495 := n1_; have HO502 := n2_; have HO509 := n3_; have BK490 := n4_; have BK497 := n5_; have BK504 := n6_; have HB := n7_; have BK511 := n8_; have GW511 := n9_; have GE511 := n10_; have NB490_511 := n11_; have NB511_490 := n12_; have NB497_511 := n13_; have NB511_497 := n14_; have NB504_511 := n15_; have NB511_504 := n16_; clear n0_ n1_ n2_ n3_ n4_ n5_ n6_ n7_ n8_ n9_ n10_ n11_ n12_ n13_ n14_ n15_ n16_ hb hbox hg; have hnb37 := NB511_490.out; have hnc37 := NB490_511.out; have hnb38 := NB511_497.out; have hnc38 := NB497_511.out; have hnb39 := NB511_504.out; have hnc39 := NB504_511.out; obtain ⟨hcz40_0, hcz40_1, hcz40_2, hfz40_0, hfz40_1, hfz40_2⟩ := blk_all3 BK511.out; obtain ⟨Ao41, co41, eo41⟩ := Kd.R_slice HO509.out; subst eo41; have hnb42 := NB490_504.out; have hnc42 := NB504_490.out; obtain ⟨hcz43_0, hcz43_1, hcz43_2, hfz43_0, hfz43_1, hfz43_2⟩ := blk_all3 BK490.out; obtain ⟨hcz44_0, hcz44_1, hcz44_2, hfz44_0, hfz44_1, hfz44_2⟩ := blk_all3 BK497.out) | (go_at_call 21; (with_reducible refine (impl_FlowOk.calls k t491 t492 _ _ t493 true _ ?side1 ?side2 A30.out).mono ?_); (case side1 => refine (Kd.R_reads' (e := 48) (base := w.heap.size) (ok := fun k_ => (((True ∧ some k_ ≠ (.slice Ao12 t486.length co12 : Value).ownBlock) ∧ some k_ ≠ (.slice Ao24 t500.length co24 : Value).ownBlock) ∧ some k_ ≠ (.slice Ao41 t507.length co41 : Value).ownBlock)) (n := t493.length) (c := co17) ?_).2.2; exact (rf3_ HO495.out BK511.out)); (case side2 => exact (Kd.R_reads' HO495.out).2.1); rintro e w45 ⟨rfl, hb⟩; replace HO488 := As_ (Kd.R_below (rf3_ HO488.out BK511.out) hb); replace HO495 := As_ (Kd.R_below (rf3_ HO495.out BK511.out) hb); replace HO502 := As_ (Kd.R_below (rf3_ HO502.out BK511.out) hb); replace HO509 := As_ (Kd.R_below (rf3_ HO509.out BK511.out) hb); replace BK490 := As_ (blk_below (g := gb490) (o := .cells #[.int .i64 t484, .int .i64 t485, .slice Ao12 t486.length co12] 24 (0, 0)) (af_ NB490_511.out BK490.out) hb); replace BK497 := As_ (blk_below (g := gb497) (o := .cells #[.int .i64 t491, .int .i64 t492, .slice Ao17 t493.length co17] 24 (0, 0)) (af_ NB497_511.out BK497.out) hb); replace BK504 := As_ (blk_below (g := gb504) (o := .cells #[.int .i64 t498, .int .i64 t499, .slice Ao24 t500.length co24] 24 (0, 0)) (af_ NB504_511.out BK504.out) hb); replace BK511 := As_ (blk_below (g := gb511) (o := .cells #[.int .i64 t505, .int .i64 t506, .slice Ao41 t507.length co41] 24 (0, 0)) (ap_ BK511.out) hb); replace HB := As_ (below_step (zb4_ HB.out GE490.out GE497.out GE504.out GE511.out) hb); (try clear hb); (try clear hb2); (try clear hk); (try clear hi)))
                  repeat (go_quiet (first | (go_at_call 27; (with_reducible refine (impl_CloseLane.calls k t491 t492 _ _ t493 t489 t505 t506 t507 true _ ?side1 ?side2 A26.out).mono ?_); (case side1 => refine (Kd.R_reads' (e := 48) (base := w.heap.size) (ok := fun k_ => ((True ∧ some k_ ≠ (.slice Ao12 t486.length co12 : Value).ownBlock) ∧ some k_ ≠ (.slice Ao24 t500.length co24 : Value).ownBlock)) (n := t493.length) (c := co17) ?_).2.2; exact (rf3_ HO495.out BK504.out)); (case side2 => exact (Kd.R_reads' HO495.out).2.1); rintro e w35 ⟨v508, rfl, ho0, hb⟩; have n0_ := As_ (Kd.R_elder' (rf3_ HO488.out BK504.out) (Kd.R_base ho0) hb); have n1_ := As_ (Kd.R_elder' (rf3_ HO495.out BK504.out) (Kd.R_base ho0) hb); have n2_ := As_ (Kd.R_elder' (rf3_ HO502.out BK504.out) (Kd.R_base ho0) hb); have HO509 := As_ (Kd.R_lower (Kd.R_new' (Kd.R_new' (Kd.R_new' ho0 (Kd.R_lt (rf3_ HO488.out BK504.out))) (Kd.R_lt (rf3_ HO495.out BK504.out))) (Kd.R_lt (rf3_ HO502.out BK504.out))) (below_size (zb3_ HB.out GE490.out GE497.out GE504.out))); replace BK490 := As_ (blk_below (g := gb490) (o := .cells #[.int .i64 t484, .int .i64 t485, .slice Ao12 t486.length co12] 24 (0, 0)) (af_ NB490_504.out BK490.out) hb); replace BK497 := As_ (blk_below (g := gb497) (o := .cells #[.int .i64 t491, .int .i64 t492, .slice Ao17 t493.length co17] 24 (0, 0)) (af_ NB497_504.out BK497.out) hb); replace BK504 := As_ (blk_below (g := gb504) (o := .cells #[.int .i64 t498, .int .i64 t499, .slice Ao24 t500.length co24] 24 (0, 0)) (ap_ BK504.out) hb); replace HB := As_ (below_step (zb3_ HB.out GE490.out GE497.out GE504.out) hb); clear HO488 HO495 HO502; have HO488 := n0_; have HO495 := n1_; have HO502 := n2_; clear n0_ n1_ n2_; (try clear hb); (try clear hb2); (try clear hk); (try clear hi); (try clear ho0)) | ((with_reducible refine gate_dst (N := 9) rfl ?_); (try (refine gate_guard (by rfl) ?_; dsimp only)); refine box_event ?hg (N := 9) ?hd (cs := #[.int .i64 0, .int .i64 0, .slice none 0 0]) (t := 24) ?hr ?_; (case hd => rfl); (case hg => rfl); (case hr => first | (go_simp; done) | (go_simp; rfl)); intro gb511 hg w36 hbox hb; have n0_ := As_ (Kd.R_below (rk_ HO488.out) hb); have n1_ := As_ (Kd.R_below (rk_ HO495.out) hb); have n2_ := As_ (Kd.R_below (rk_ HO502.out) hb); have n3_ := As_ (Kd.R_below (rk_ HO509.out) hb); have n4_ := As_ (blk_below (g := gb490) (o := .cells #[.int .i64 t484, .int .i64 t485, .slice Ao12 t486.length co12] 24 (0, 0)) (ak_ BK490.out) hb); have n5_ := As_ (blk_below (g := gb497) (o := .cells #[.int .i64 t491, .int .i64 t492, .slice Ao17 t493.length co17] 24 (0, 0)) (ak_ BK497.out) hb); have n6_ := As_ (blk_below (g := gb504) (o := .cells #[.int .i64 t498, .int .i64 t499, .slice Ao24 t500.length co24] 24 (0, 0)) (ak_ BK504.out) hb); have n7_ := As_ (below_step (zb3_ HB.out GE490.out GE497.out GE504.out) hb); have n8_ := As_ (hbox); have n9_ := As_ ((sb_ hg (zb3_ HB.out GE490.out GE497.out GE504.out) : w.heap.size ≤ gb511)); have n10_ := As_ ((sb_ hg (zb3_ HB.out GE490.out GE497.out GE504.out) : w.heap.size ≤ gb511)); have n11_ := As_ ((nl_ hg BK490.out : gb490 ≠ gb511)); have n12_ := As_ ((ng_ hg BK490.out : gb511 ≠ gb490)); have n13_ := As_ ((nl_ hg BK497.out : gb497 ≠ gb511)); have n14_ := As_ ((ng_ hg BK497.out : gb511 ≠ gb497)); have n15_ := As_ ((nl_ hg BK504.out : gb504 ≠ gb511)); have n16_ := As_ ((ng_ hg BK504.out : gb511 ≠ gb504)); clear HO488 HO495 HO502 HO509 BK490 BK497 BK504 HB; have HO488 := n0_; have HO495 := n1_; have HO502 := n2_; have HO509 := n3_; have BK490 := n4_; have BK497 := n5_; have BK504 := n6_; have HB := n7_; have BK511 := n8_; have GW511 := n9_; have GE511 := n10_; have NB490_511 := n11_; have NB511_490 := n12_; have NB497_511 := n13_; have NB511_497 := n14_; have NB504_511 := n15_; have NB511_504 := n16_; clear n0_ n1_ n2_ n3_ n4_ n5_ n6_ n7_ n8_ n9_ n10_ n11_ n12_ n13_ n14_ n15_ n16_ hb hbox hg; have hnb37 := NB511_490.out; have hnc37 := NB490_511.out; have hnb38 := NB511_497.out; have hnc38 := NB497_511.out; have hnb39 := NB511_504.out; have hnc39 := NB504_511.out; obtain ⟨hcz40_0, hcz40_1, hcz40_2, hfz40_0, hfz40_1, hfz40_2⟩ := blk_all3 BK511.out; obtain ⟨Ao41, co41, eo41⟩ := Kd.R_slice HO509.out; subst eo41; have hnb42 := NB490_504.out; have hnc42 := NB504_490.out; obtain ⟨hcz43_0, hcz43_1, hcz43_2, hfz43_0, hfz43_1, hfz43_2⟩ := blk_all3 BK490.out; obtain ⟨hcz44_0, hcz44_1, hcz44_2, hfz44_0, hfz44_1, hfz44_2⟩ := blk_all3 BK497.out) | (go_at_call 21; (with_reducible refine (impl_FlowOk.calls k t491 t492 _ _ t493 true _ ?side1 ?side2 A30.out).mono ?_); (case side1 => refine (Kd.R_reads' (e := 48) (base := w.heap.size) (ok := fun k_ => (((True ∧ some k_ ≠ (.slice Ao12 t486.length co12 : Value).ownBlock) ∧ some k_ ≠ (.slice Ao24 t500.length co24 : Value).ownBlock) ∧ some k_ ≠ (.slice Ao41 t507.length co41 : Value).ownBlock)) (n := t493.length) (c := co17) ?_).2.2; exact (rf3_ HO495.out BK511.out)); (case side2 => exact (Kd.R_reads' HO495.out).2.1); rintro e w45 ⟨rfl, hb⟩; replace HO488 := As_ (Kd.R_below (rf3_ HO488.out BK511.out) hb); replace HO495 := As_ (Kd.R_below (rf3_ HO495.out BK511.out) hb); replace HO502 := As_ (Kd.R_below (rf3_ HO502.out BK511.out) hb); replace HO509 := As_ (Kd.R_below (rf3_ HO509.out BK511.out) hb); replace BK490 := As_ (blk_below (g := gb490) (o := .cells #[.int .i64 t484, .int .i64 t485, .slice Ao12 t486.length co12] 24 (0, 0)) (af_ NB490_511.out BK490.out) hb); replace BK497 := As_ (blk_below (g := gb497) (o := .cells #[.int .i64 t491, .int .i64 t492, .slice Ao17 t493.length co17] 24 (0, 0)) (af_ NB497_511.out BK497.out) hb); replace BK504 := As_ (blk_below (g := gb504) (o := .cells #[.int .i64 t498, .int .i64 t499, .slice Ao24 t500.length co24] 24 (0, 0)) (af_ NB504_511.out BK504.out) hb); replace BK511 := As_ (blk_below (g := gb511) (o := .cells #[.int .i64 t505, .int .i64 t506, .slice Ao41 t507.length co41] 24 (0, 0)) (ap_ BK511.out) hb); replace HB := As_ (below_step (zb4_ HB.out GE490.out GE497.out GE504.out GE511.out) hb); (try clear hb); (try clear hb2); (try clear hk); (try clear hi))); try go_wp2_with (first | (go_at_call 27; (with_reducible refine (impl_CloseLane.calls k t491 t492 _ _ t493 t489 t505 t506 t507 true _ ?side1 ?side2 A26.out).mono ?_); (case side1 => refine (Kd.R_reads' (e := 48) (base := w.heap.size) (ok := fun k_ => ((True ∧ some k_ ≠ (.slice Ao12 t486.length co12 : Value).ownBlock) ∧ some k_ ≠ (.slice Ao24 t500.length co24 : Value).ownBlock)) (n := t493.length) (c := co17) ?_).2.2; exact (rf3_ HO495.out BK504.out)); (case side2 => exact (Kd.R_reads' HO495.out).2.1); rintro e w35 ⟨v508, rfl, ho0, hb⟩; have n0_ := As_ (Kd.R_elder' (rf3_ HO488.out BK504.out) (Kd.R_base ho0) hb); have n1_ := As_ (Kd.R_elder' (rf3_ HO495.out BK504.out) (Kd.R_base ho0) hb); have n2_ := As_ (Kd.R_elder' (rf3_ HO502.out BK504.out) (Kd.R_base ho0) hb); have HO509 := As_ (Kd.R_lower (Kd.R_new' (Kd.R_new' (Kd.R_new' ho0 (Kd.R_lt (rf3_ HO488.out BK504.out))) (Kd.R_lt (rf3_ HO495.out BK504.out))) (Kd.R_lt (rf3_ HO502.out BK504.out))) (below_size (zb3_ HB.out GE490.out GE497.out GE504.out))); replace BK490 := As_ (blk_below (g := gb490) (o := .cells #[.int .i64 t484, .int .i64 t485, .slice Ao12 t486.length co12] 24 (0, 0)) (af_ NB490_504.out BK490.out) hb); replace BK497 := As_ (blk_below (g := gb497) (o := .cells #[.int .i64 t491, .int .i64 t492, .slice Ao17 t493.length co17] 24 (0, 0)) (af_ NB497_504.out BK497.out) hb); replace BK504 := As_ (blk_below (g := gb504) (o := .cells #[.int .i64 t498, .int .i64 t499, .slice Ao24 t500.length co24] 24 (0, 0)) (ap_ BK504.out) hb); replace HB := As_ (below_step (zb3_ HB.out GE490.out GE497.out GE504.out) hb); clear HO488 HO495 HO502; have HO488 := n0_; have HO495 := n1_; have HO502 := n2_; clear n0_ n1_ n2_; (try clear hb); (try clear hb2); (try clear hk); (try clear hi); (try clear ho0)) | ((with_reducible refine gate_dst (N := 9) rfl ?_); (try (refine gate_guard (by rfl) ?_; dsimp only)); refine box_event ?hg (N := 9) ?hd (cs := #[.int .i64 0, .int .i64 0, .slice none 0 0]) (t := 24) ?hr ?_; (case hd => rfl); (case hg => rfl); (case hr => first | (go_simp; done) | (go_simp; rfl)); intro gb511 hg w36 hbox hb; have n0_ := As_ (Kd.R_below (rk_ HO488.out) hb); have n1_ := As_ (Kd.R_below (rk_ HO495.out) hb); have n2_ := As_ (Kd.R_below (rk_ HO502.out) hb); have n3_ := As_ (Kd.R_below (rk_ HO509.out) hb); have n4_ := As_ (blk_below (g := gb490) (o := .cells #[.int .i64 t484, .int .i64 t485, .slice Ao12 t486.length co12] 24 (0, 0)) (ak_ BK490.out) hb); have n5_ := As_ (blk_below (g := gb497) (o := .cells #[.int .i64 t491, .int .i64 t492, .slice Ao17 t493.length co17] 24 (0, 0)) (ak_ BK497.out) hb); have n6_ := As_ (blk_below (g := gb504) (o := .cells #[.int .i64 t498, .int .i64 t499, .slice Ao24 t500.length co24] 24 (0, 0)) (ak_ BK504.out) hb); have n7_ := As_ (below_step (zb3_ HB.out GE490.out GE497.out GE504.out) hb); have n8_ := As_ (hbox); have n9_ := As_ ((sb_ hg (zb3_ HB.out GE490.out GE497.out GE504.out) : w.heap.size ≤ gb511)); have n10_ := As_ ((sb_ hg (zb3_ HB.out GE490.out GE497.out GE504.out) : w.heap.size ≤ gb511)); have n11_ := As_ ((nl_ hg BK490.out : gb490 ≠ gb511)); have n12_ := As_ ((ng_ hg BK490.out : gb511 ≠ gb490)); have n13_ := As_ ((nl_ hg BK497.out : gb497 ≠ gb511)); have n14_ := As_ ((ng_ hg BK497.out : gb511 ≠ gb497)); have n15_ := As_ ((nl_ hg BK504.out : gb504 ≠ gb511)); have n16_ := As_ ((ng_ hg BK504.out : gb511 ≠ gb504)); clear HO488 HO495 HO502 HO509 BK490 BK497 BK504 HB; have HO488 := n0_; have HO495 := n1_; have HO502 := n2_; have HO509 := n3_; have BK490 := n4_; have BK497 := n5_; have BK504 := n6_; have HB := n7_; have BK511 := n8_; have GW511 := n9_; have GE511 := n10_; have NB490_511 := n11_; have NB511_490 := n12_; have NB497_511 := n13_; have NB511_497 := n14_; have NB504_511 := n15_; have NB511_504 := n16_; clear n0_ n1_ n2_ n3_ n4_ n5_ n6_ n7_ n8_ n9_ n10_ n11_ n12_ n13_ n14_ n15_ n16_ hb hbox hg; have hnb37 := NB511_490.out; have hnc37 := NB490_511.out; have hnb38 := NB511_497.out; have hnc38 := NB497_511.out; have hnb39 := NB511_504.out; have hnc39 := NB504_511.out; obtain ⟨hcz40_0, hcz40_1, hcz40_2, hfz40_0, hfz40_1, hfz40_2⟩ := blk_all3 BK511.out; obtain ⟨Ao41, co41, eo41⟩ := Kd.R_slice HO509.out; subst eo41; have hnb42 := NB490_504.out; have hnc42 := NB504_490.out; obtain ⟨hcz43_0, hcz43_1, hcz43_2, hfz43_0, hfz43_1, hfz43_2⟩ := blk_all3 BK490.out; obtain ⟨hcz44_0, hcz44_1, hcz44_2, hfz44_0, hfz44_1, hfz44_2⟩ := blk_all3 BK497.out) | (go_at_call 21; (with_reducible refine (impl_FlowOk.calls k t491 t492 _ _ t493 true _ ?side1 ?side2 A30.out).mono ?_); (case side1 => refine (Kd.R_reads' (e := 48) (base := w.heap.size) (ok := fun k_ => (((True ∧ some k_ ≠ (.slice Ao12 t486.length co12 : Value).ownBlock) ∧ some k_ ≠ (.slice Ao24 t500.length co24 : Value).ownBlock) ∧ some k_ ≠ (.slice Ao41 t507.length co41 : Value).ownBlock)) (n := t493.length) (c := co17) ?_).2.2; exact (rf3_ HO495.out BK511.out)); (case side2 => exact (Kd.R_reads' HO495.out).2.1); rintro e w45 ⟨rfl, hb⟩; replace HO488 := As_ (Kd.R_below (rf3_ HO488.out BK511.out) hb); replace HO495 := As_ (Kd.R_below (rf3_ HO495.out BK511.out) hb); replace HO502 := As_ (Kd.R_below (rf3_ HO502.out BK511.out) hb); replace HO509 := As_ (Kd.R_below (rf3_ HO509.out BK511.out) hb); replace BK490 := As_ (blk_below (g := gb490) (o := .cells #[.int .i64 t484, .int .i64 t485, .slice Ao12 t486.length co12] 24 (0, 0)) (af_ NB490_511.out BK490.out) hb); replace BK497 := As_ (blk_below (g := gb497) (o := .cells #[.int .i64 t491, .int .i64 t492, .slice Ao17 t493.length co17] 24 (0, 0)) (af_ NB497_511.out BK497.out) hb); replace BK504 := As_ (blk_below (g := gb504) (o := .cells #[.int .i64 t498, .int .i64 t499, .slice Ao24 t500.length co24] 24 (0, 0)) (af_ NB504_511.out BK504.out) hb); replace BK511 := As_ (blk_below (g := gb511) (o := .cells #[.int .i64 t505, .int .i64 t506, .slice Ao41 t507.length co41] 24 (0, 0)) (ap_ BK511.out) hb); replace HB := As_ (below_step (zb4_ HB.out GE490.out GE497.out GE504.out GE511.out) hb); (try clear hb); (try clear hb2); (try clear hk); (try clear hi))))
                  go_meet
                  case rel => exact ⟨_, H', ⟨by first | omega | exact Nat.le_refl _⟩, ⟨by (with_reducible repeat (first | apply rA_ | apply rN_ | apply rD_)); exact Kd.R_mono HO488.out (fun _ hk => ⟨hk.1.1.2, hk.1.2⟩)⟩, ⟨by (with_reducible repeat (first | apply rA_ | apply rN_ | apply rD_)); exact Kd.R_mono HO495.out (fun _ hk => ⟨hk.1.1.2, hk.1.2⟩)⟩, ⟨by (with_reducible repeat (first | apply rA_ | apply rN_ | apply rD_)); exact Kd.R_mono HO502.out (fun _ hk => ⟨hk.1.1.2, hk.1.2⟩)⟩, ⟨ak_ BK490.out⟩, ⟨ak_ BK497.out⟩, ⟨ak_ BK504.out⟩, ⟨zb4_ HB.out GE490.out GE497.out GE504.out GE511.out⟩⟩
                · replace c31 := Bool.eq_false_iff.mpr c31
                  subst c31
                  have H1 : (none) = some r := by rw [if_neg (show ¬ (false = true) by decide)] at H; exact H
                  clear H
                  have H := H1
                  clear H1
                  exact absurd H (by simp)
              · rw [if_neg c29] at H
                exact absurd H (by simp)
            · rw [if_neg c28] at H
              exact absurd H (by simp)
          · replace c27 := Bool.eq_false_iff.mpr c27
            subst c27
            have H1 : (none) = some r := by rw [if_neg (show ¬ (false = true) by decide)] at H; exact H
            clear H
            have H := H1
            clear H1
            exact absurd H (by simp)
        · replace c25 := Bool.eq_false_iff.mpr c25
          subst c25
          have H1 : (laws_FnLanes.j0 k l0) = some r := by rw [if_neg (show ¬ (false = true) by decide)] at H; exact H
          clear H
          have H := H1
          clear H1
          have H' := Aside0.mk H
          clear H
          go_wp2
          repeat (go_quiet (fail); try go_wp2)
          go_meet
          case rel => exact ⟨_, H', ⟨by first | omega | exact Nat.le_refl _⟩, ⟨by (with_reducible repeat (first | apply rA_ | apply rN_ | apply rD_)); exact Kd.R_mono (Kd.R_far (p := ⟨gb504, 2, none⟩) (Kd.R_far (p := ⟨gb504, 1, none⟩) (Kd.R_far (p := ⟨gb504, 0, none⟩) (Kd.R_types HO488.out BK504.out (by decide)) (fun _ hk => hk.2) (.int .i64 t498)) (fun _ hk => hk.2) (.int .i64 t499)) (fun _ hk => hk.2) (.slice Ao24 t500.length co24)) (fun _ hk => ⟨hk.1.1.2, hk.1.2⟩)⟩, ⟨by (with_reducible repeat (first | apply rA_ | apply rN_ | apply rD_)); exact Kd.R_mono (Kd.R_far (p := ⟨gb504, 2, none⟩) (Kd.R_far (p := ⟨gb504, 1, none⟩) (Kd.R_far (p := ⟨gb504, 0, none⟩) (Kd.R_types HO495.out BK504.out (by decide)) (fun _ hk => hk.2) (.int .i64 t498)) (fun _ hk => hk.2) (.int .i64 t499)) (fun _ hk => hk.2) (.slice Ao24 t500.length co24)) (fun _ hk => ⟨hk.1.1.2, hk.1.2⟩)⟩, ⟨by (with_reducible repeat (first | apply rA_ | apply rN_ | apply rD_)); exact Kd.R_mono (Kd.R_far (p := ⟨gb504, 2, none⟩) (Kd.R_far (p := ⟨gb504, 1, none⟩) (Kd.R_far (p := ⟨gb504, 0, none⟩) (Kd.R_types HO502.out BK504.out (by decide)) (fun _ hk => hk.2) (.int .i64 t498)) (fun _ hk => hk.2) (.int .i64 t499)) (fun _ hk => hk.2) (.slice Ao24 t500.length co24)) (fun _ hk => ⟨hk.1.1.2, hk.1.2⟩)⟩, ⟨af_ NB490_504.out BK490.out⟩, ⟨af_ NB497_504.out BK497.out⟩, ⟨ap_ BK504.out⟩, ⟨zb3_ HB.out GE490.out GE497.out GE504.out⟩⟩
      case rest =>
        clear HC8
        try clear c1
        try clear c2
        try clear p2
        try clear c3
        try clear c4
        try clear p6
        try clear c7
        try clear c7b0
        try clear c7b1
        try clear c7b2
        try clear c12
        try clear c15
        try clear c21
        try clear c22
        try clear c25
        try clear c27
        try clear c28
        try clear c28b0
        try clear c28b1
        try clear c28b2
        try clear c29
        try clear c29b0
        try clear c29b1
        try clear c31
        try clear c32
        try clear c33
        try clear c37
        try clear c38
        try clear c39
        try clear c42
        try clear hcz11_0
        try clear hcz11_1
        try clear hcz11_2
        try clear hcz16_0
        try clear hcz16_1
        try clear hcz16_2
        try clear hcz18_0
        try clear hcz18_1
        try clear hcz18_2
        try clear hcz23_0
        try clear hcz23_1
        try clear hcz23_2
        try clear hcz34_0
        try clear hcz34_1
        try clear hcz34_2
        try clear hcz40_0
        try clear hcz40_1
        try clear hcz40_2
        try clear hcz43_0
        try clear hcz43_1
        try clear hcz43_2
        try clear hcz44_0
        try clear hcz44_1
        try clear hcz44_2
        try clear hfz11_0
        try clear hfz11_1
        try clear hfz11_2
        try clear hfz16_0
        try clear hfz16_1
        try clear hfz16_2
        try clear hfz18_0
        try clear hfz18_1
        try clear hfz18_2
        try clear hfz23_0
        try clear hfz23_1
        try clear hfz23_2
        try clear hfz34_0
        try clear hfz34_1
        try clear hfz34_2
        try clear hfz40_0
        try clear hfz40_1
        try clear hfz40_2
        try clear hfz43_0
        try clear hfz43_1
        try clear hfz43_2
        try clear hfz44_0
        try clear hfz44_1
        try clear hfz44_2
        obtain ⟨kq, HA, HJ7, HO_491002, HO_498002, HO_505002, BK490, BK497, BK504, HB⟩ := hcut
        cases kq with
        | zero => exact absurd HA.out (by simp [laws_FnLanes.j0])
        | succ kj7 =>
          have H := HA.out
          clear HA
          simp only [laws_FnLanes.j0] at H
          replace H := Option.bind_eq_some_iff.mp H
          obtain ⟨⟨t513, t514, t515, t518⟩, A460, H⟩ := H
          replace H : ((impl_NewInit.f kj7 t513 t514 t515 t518).bind fun bt520 => ((spec_NewInit.f kj7 t513 t514 t515 t518).bind fun bt527 => (if (bt520.2.2.2 != bt527.2.2.2) = true then (laws_FnLanes.j1 kj7 t518 bt520.2.2.2 bt527.2.2.2 true t513 t514 t515 bt520.1 bt520.2.1 bt520.2.2.1) else (laws_FnLanes.j1 kj7 t518 bt520.2.2.2 bt527.2.2.2 (!bt520.2.2.2) t513 t514 t515 bt520.1 bt520.2.1 bt520.2.2.1)))) = some r := H
          have A46 := Aside0.mk A460
          clear A460
          replace H := Option.bind_eq_some_iff.mp H
          obtain ⟨⟨t520, t521, t522, t525⟩, A470, H⟩ := H
          replace H : ((spec_NewInit.f kj7 t513 t514 t515 t518).bind fun bt527 => (if (t525 != bt527.2.2.2) = true then (laws_FnLanes.j1 kj7 t518 t525 bt527.2.2.2 true t513 t514 t515 t520 t521 t522) else (laws_FnLanes.j1 kj7 t518 t525 bt527.2.2.2 (!t525) t513 t514 t515 t520 t521 t522))) = some r := H
          have A47 := Aside0.mk A470
          clear A470
          replace H := Option.bind_eq_some_iff.mp H
          obtain ⟨⟨t527, t528, t529, t532⟩, A480, H⟩ := H
          replace H : (if (t525 != t532) = true then (laws_FnLanes.j1 kj7 t518 t525 t532 true t513 t514 t515 t520 t521 t522) else (laws_FnLanes.j1 kj7 t518 t525 t532 (!t525) t513 t514 t515 t520 t521 t522)) = some r := H
          have A48 := Aside0.mk A480
          clear A480
          have HC49 := Aside0.mk H
          clear H
          go_upto_region 15 with (first | (go_at_call 37; (with_reducible refine (spec_DrawNewInit.calls kj7 _ _ l0 t513 t514 t515 t518 _ ?side1 ?side2 A46.out).mono ?_); (case side1 => repeat (first | exact (Kd.C_below HR0.out HB.out) | (with_reducible first | apply cA_ | apply cN_ | apply cD_))); (case side2 => exact HC0.out); rintro e w50 ⟨v516, rfl, ho0, hb⟩; have n0_ := As_ (Kd.R_elder' (rk_ HO_491002.out) (Kd.R_base ho0) hb); have n1_ := As_ (Kd.R_elder' (rk_ HO_498002.out) (Kd.R_base ho0) hb); have n2_ := As_ (Kd.R_elder' (rk_ HO_505002.out) (Kd.R_base ho0) hb); have HO517 := As_ (Kd.R_lower (Kd.R_new' (Kd.R_new' (Kd.R_new' ho0 (Kd.R_lt (rk_ HO_491002.out))) (Kd.R_lt (rk_ HO_498002.out))) (Kd.R_lt (rk_ HO_505002.out))) (below_size (zb3_ HB.out GE490.out GE497.out GE504.out))); replace BK490 := As_ (blk_below (g := gb490) (o := .cells #[.int .i64 t484, .int .i64 t485, .slice Ao12 t486.length co12] 24 (0, 0)) (ak_ BK490.out) hb); replace BK497 := As_ (blk_below (g := gb497) (o := .cells #[.int .i64 t491, .int .i64 t492, .slice Ao17 t493.length co17] 24 (0, 0)) (ak_ BK497.out) hb); replace BK504 := As_ (blk_below (g := gb504) (o := .cells #[.int .i64 t498, .int .i64 t499, .slice Ao24 t500.length co24] 24 (0, 0)) (ak_ BK504.out) hb); replace HB := As_ (below_step (zb3_ HB.out GE490.out GE497.out GE504.out) hb); clear HO_491002 HO_498002 HO_505002; have HO_491002 := n0_; have HO_498002 := n1_; have HO_505002 := n2_; clear n0_ n1_ n2_; (try clear hb); (try clear hb2); (try clear hk); (try clear hi); (try clear ho0)) | ((with_reducible refine gate_dst (N := 11) rfl ?_); (try (refine gate_guard (by rfl) ?_; dsimp only)); refine box_event ?hg (N := 11) ?hd (cs := #[.int .i64 0, .int .i64 0, .slice none 0 0]) (t := 24) ?hr ?_; (case hd => rfl); (case hg => rfl); (case hr => first | (go_simp; done) | (go_simp; rfl)); intro gb519 hg w51 hbox hb; have n0_ := As_ (Kd.R_below (rk_ HO_491002.out) hb); have n1_ := As_ (Kd.R_below (rk_ HO_498002.out) hb); have n2_ := As_ (Kd.R_below (rk_ HO_505002.out) hb); have n3_ := As_ (Kd.R_below (rk_ HO517.out) hb); have n4_ := As_ (blk_below (g := gb490) (o := .cells #[.int .i64 t484, .int .i64 t485, .slice Ao12 t486.length co12] 24 (0, 0)) (ak_ BK490.out) hb); have n5_ := As_ (blk_below (g := gb497) (o := .cells #[.int .i64 t491, .int .i64 t492, .slice Ao17 t493.length co17] 24 (0, 0)) (ak_ BK497.out) hb); have n6_ := As_ (blk_below (g := gb504) (o := .cells #[.int .i64 t498, .int .i64 t499, .slice Ao24 t500.length co24] 24 (0, 0)) (ak_ BK504.out) hb); have n7_ := As_ (below_step (zb3_ HB.out GE490.out GE497.out GE504.out) hb); have n8_ := As_ (hbox); have n9_ := As_ ((sb_ hg (zb3_ HB.out GE490.out GE497.out GE504.out) : w.heap.size ≤ gb519)); have n10_ := As_ ((sb_ hg (zb3_ HB.out GE490.out GE497.out GE504.out) : w.heap.size ≤ gb519)); have n11_ := As_ ((nl_ hg BK490.out : gb490 ≠ gb519)); have n12_ := As_ ((ng_ hg BK490.out : gb519 ≠ gb490)); have n13_ := As_ ((nl_ hg BK497.out : gb497 ≠ gb519)); have n14_ := As_ ((ng_ hg BK497.out : gb519 ≠ gb497)); have n15_ := As_ ((nl_ hg BK504.out : gb504 ≠ gb519)); have n16_ := As_ ((ng_ hg BK504.out : gb519 ≠ gb504)); clear HO_491002 HO_498002 HO_505002 HO517 BK490 BK497 BK504 HB; have HO_491002 := n0_; have HO_498002 := n1_; have HO_505002 := n2_; have HO517 := n3_; have BK490 := n4_; have BK497 := n5_; have BK504 := n6_; have HB := n7_; have BK519 := n8_; have GW519 := n9_; have GE519 := n10_; have NB490_519 := n11_; have NB519_490 := n12_; have NB497_519 := n13_; have NB519_497 := n14_; have NB504_519 := n15_; have NB519_504 := n16_; clear n0_ n1_ n2_ n3_ n4_ n5_ n6_ n7_ n8_ n9_ n10_ n11_ n12_ n13_ n14_ n15_ n16_ hb hbox hg; have hnb52 := NB519_490.out; have hnc52 := NB490_519.out; have hnb53 := NB519_497.out; have hnc53 := NB497_519.out; have hnb54 := NB519_504.out; have hnc54 := NB504_519.out; obtain ⟨hcz55_0, hcz55_1, hcz55_2, hfz55_0, hfz55_1, hfz55_2⟩ := blk_all3 BK519.out; obtain ⟨Ao56, co56, eo56⟩ := Kd.R_slice HO517.out; subst eo56) | (go_at_call 25; (with_reducible refine (impl_NewInit.calls kj7 t513 t514 _ _ t515 t518 t520 t521 t522 t525 _ ?side1 ?side2 A47.out).mono ?_); (case side1 => refine (Kd.R_reads' (e := 48) (base := w.heap.size) (ok := fun k_ => (((True ∧ some k_ ≠ (.slice Ao12 t486.length co12 : Value).ownBlock) ∧ some k_ ≠ (.slice Ao17 t493.length co17 : Value).ownBlock) ∧ some k_ ≠ (.slice Ao24 t500.length co24 : Value).ownBlock)) (n := t515.length) (c := co56) ?_).2.2; exact (rf3_ HO517.out BK519.out)); (case side2 => exact (Kd.R_reads' HO517.out).2.1); rintro e w57 ⟨v523, rfl, ho0, hb⟩; have n0_ := As_ (Kd.R_elder' (rf3_ HO_491002.out BK519.out) (Kd.R_base ho0) hb); have n1_ := As_ (Kd.R_elder' (rf3_ HO_498002.out BK519.out) (Kd.R_base ho0) hb); have n2_ := As_ (Kd.R_elder' (rf3_ HO_505002.out BK519.out) (Kd.R_base ho0) hb); have n3_ := As_ (Kd.R_elder' (rf3_ HO517.out BK519.out) (Kd.R_base ho0) hb); have HO524 := As_ (Kd.R_lower (Kd.R_new' (Kd.R_new' (Kd.R_new' (Kd.R_new' ho0 (Kd.R_lt (rf3_ HO_491002.out BK519.out))) (Kd.R_lt (rf3_ HO_498002.out BK519.out))) (Kd.R_lt (rf3_ HO_505002.out BK519.out))) (Kd.R_lt (rf3_ HO517.out BK519.out))) (below_size (zb4_ HB.out GE490.out GE497.out GE504.out GE519.out))); replace BK490 := As_ (blk_below (g := gb490) (o := .cells #[.int .i64 t484, .int .i64 t485, .slice Ao12 t486.length co12] 24 (0, 0)) (af_ NB490_519.out BK490.out) hb); replace BK497 := As_ (blk_below (g := gb497) (o := .cells #[.int .i64 t491, .int .i64 t492, .slice Ao17 t493.length co17] 24 (0, 0)) (af_ NB497_519.out BK497.out) hb); replace BK504 := As_ (blk_below (g := gb504) (o := .cells #[.int .i64 t498, .int .i64 t499, .slice Ao24 t500.length co24] 24 (0, 0)) (af_ NB504_519.out BK504.out) hb); replace BK519 := As_ (blk_below (g := gb519) (o := .cells #[.int .i64 t513, .int .i64 t514, .slice Ao56 t515.length co56] 24 (0, 0)) (ap_ BK519.out) hb); replace HB := As_ (below_step (zb4_ HB.out GE490.out GE497.out GE504.out GE519.out) hb); clear HO_491002 HO_498002 HO_505002 HO517; have HO_491002 := n0_; have HO_498002 := n1_; have HO_505002 := n2_; have HO517 := n3_; clear n0_ n1_ n2_ n3_; (try clear hb); (try clear hb2); (try clear hk); (try clear hi); (try clear ho0)) | ((with_reducible refine gate_dst (N := 13) rfl ?_); (try (refine gate_guard (by rfl) ?_; dsimp only)); refine box_event ?hg (N := 13) ?hd (cs := #[.int .i64 0, .int .i64 0, .slice none 0 0]) (t := 24) ?hr ?_; (case hd => rfl); (case hg => rfl); (case hr => first | (go_simp; done) | (go_simp; rfl)); intro gb526 hg w58 hbox hb; have n0_ := As_ (Kd.R_below (rk_ HO_491002.out) hb); have n1_ := As_ (Kd.R_below (rk_ HO_498002.out) hb); have n2_ := As_ (Kd.R_below (rk_ HO_505002.out) hb); have n3_ := As_ (Kd.R_below (rk_ HO517.out) hb); have n4_ := As_ (Kd.R_below (rk_ HO524.out) hb); have n5_ := As_ (blk_below (g := gb490) (o := .cells #[.int .i64 t484, .int .i64 t485, .slice Ao12 t486.length co12] 24 (0, 0)) (ak_ BK490.out) hb); have n6_ := As_ (blk_below (g := gb497) (o := .cells #[.int .i64 t491, .int .i64 t492, .slice Ao17 t493.length co17] 24 (0, 0)) (ak_ BK497.out) hb); have n7_ := As_ (blk_below (g := gb504) (o := .cells #[.int .i64 t498, .int .i64 t499, .slice Ao24 t500.length co24] 24 (0, 0)) (ak_ BK504.out) hb); have n8_ := As_ (blk_below (g := gb519) (o := .cells #[.int .i64 t513, .int .i64 t514, .slice Ao56 t515.length co56] 24 (0, 0)) (ak_ BK519.out) hb); have n9_ := As_ (below_step (zb4_ HB.out GE490.out GE497.out GE504.out GE519.out) hb); have n10_ := As_ (hbox); have n11_ := As_ ((sb_ hg (zb4_ HB.out GE490.out GE497.out GE504.out GE519.out) : w.heap.size ≤ gb526)); have n12_ := As_ ((sb_ hg (zb4_ HB.out GE490.out GE497.out GE504.out GE519.out) : w.heap.size ≤ gb526)); have n13_ := As_ ((nl_ hg BK490.out : gb490 ≠ gb526)); have n14_ := As_ ((ng_ hg BK490.out : gb526 ≠ gb490)); have n15_ := As_ ((nl_ hg BK497.out : gb497 ≠ gb526)); have n16_ := As_ ((ng_ hg BK497.out : gb526 ≠ gb497)); have n17_ := As_ ((nl_ hg BK504.out : gb504 ≠ gb526)); have n18_ := As_ ((ng_ hg BK504.out : gb526 ≠ gb504)); have n19_ := As_ ((nl_ hg BK519.out : gb519 ≠ gb526)); have n20_ := As_ ((ng_ hg BK519.out : gb526 ≠ gb519)); clear HO_491002 HO_498002 HO_505002 HO517 HO524 BK490 BK497 BK504 BK519 HB; have HO_491002 := n0_; have HO_498002 := n1_; have HO_505002 := n2_; have HO517 := n3_; have HO524 := n4_; have BK490 := n5_; have BK497 := n6_; have BK504 := n7_; have BK519 := n8_; have HB := n9_; have BK526 := n10_; have GW526 := n11_; have GE526 := n12_; have NB490_526 := n13_; have NB526_490 := n14_; have NB497_526 := n15_; have NB526_497 := n16_; have NB504_526 := n17_; have NB526_504 := n18_; have NB519_526 := n19_; have NB526_519 := n20_; clear n0_ n1_ n2_ n3_ n4_ n5_ n6_ n7_ n8_ n9_ n10_ n11_ n12_ n13_ n14_ n15_ n16_ n17_ n18_ n19_ n20_ hb hbox hg; have hnb59 := NB526_490.out; have hnc59 := NB490_526.out; have hnb60 := NB526_497.out; have hnc60 := NB497_526.out; have hnb61 := NB526_504.out; have hnc61 := NB504_526.out; have hnb62 := NB526_519.out; have hnc62 := NB519_526.out; obtain ⟨hcz63_0, hcz63_1, hcz63_2, hfz63_0, hfz63_1, hfz63_2⟩ := blk_all3 BK526.out; obtain ⟨Ao64, co64, eo64⟩ := Kd.R_slice HO524.out; subst eo64; obtain ⟨hcz65_0, hcz65_1, hcz65_2, hfz65_0, hfz65_1, hfz65_2⟩ := blk_all3 BK519.out) | (go_at_call 24; (with_reducible refine (spec_NewInit.calls kj7 t513 t514 _ _ t515 t518 t527 t528 t529 t532 _ ?side1 ?side2 A48.out).mono ?_); (case side1 => refine (Kd.R_reads' (e := 48) (base := w.heap.size) (ok := fun k_ => ((((True ∧ some k_ ≠ (.slice Ao12 t486.length co12 : Value).ownBlock) ∧ some k_ ≠ (.slice Ao17 t493.length co17 : Value).ownBlock) ∧ some k_ ≠ (.slice Ao24 t500.length co24 : Value).ownBlock) ∧ some k_ ≠ (.slice Ao64 t522.length co64 : Value).ownBlock)) (n := t515.length) (c := co56) ?_).2.2; exact (rf3_ HO517.out BK526.out)); (case side2 => exact (Kd.R_reads' HO517.out).2.1); rintro e w66 ⟨v530, rfl, ho0, hb⟩; have n0_ := As_ (Kd.R_elder' (rf3_ HO_491002.out BK526.out) (Kd.R_base ho0) hb); have n1_ := As_ (Kd.R_elder' (rf3_ HO_498002.out BK526.out) (Kd.R_base ho0) hb); have n2_ := As_ (Kd.R_elder' (rf3_ HO_505002.out BK526.out) (Kd.R_base ho0) hb); have n3_ := As_ (Kd.R_elder' (rf3_ HO517.out BK526.out) (Kd.R_base ho0) hb); have n4_ := As_ (Kd.R_elder' (rf3_ HO524.out BK526.out) (Kd.R_base ho0) hb); have HO531 := As_ (Kd.R_lower (Kd.R_new' (Kd.R_new' (Kd.R_new' (Kd.R_new' (Kd.R_new' ho0 (Kd.R_lt (rf3_ HO_491002.out BK526.out))) (Kd.R_lt (rf3_ HO_498002.out BK526.out))) (Kd.R_lt (rf3_ HO_505002.out BK526.out))) (Kd.R_lt (rf3_ HO517.out BK526.out))) (Kd.R_lt (rf3_ HO524.out BK526.out))) (below_size (zb5_ HB.out GE490.out GE497.out GE504.out GE519.out GE526.out))); replace BK490 := As_ (blk_below (g := gb490) (o := .cells #[.int .i64 t484, .int .i64 t485, .slice Ao12 t486.length co12] 24 (0, 0)) (af_ NB490_526.out BK490.out) hb); replace BK497 := As_ (blk_below (g := gb497) (o := .cells #[.int .i64 t491, .int .i64 t492, .slice Ao17 t493.length co17] 24 (0, 0)) (af_ NB497_526.out BK497.out) hb); replace BK504 := As_ (blk_below (g := gb504) (o := .cells #[.int .i64 t498, .int .i64 t499, .slice Ao24 t500.length co24] 24 (0, 0)) (af_ NB504_526.out BK504.out) hb); replace BK519 := As_ (blk_below (g := gb519) (o := .cells #[.int .i64 t513, .int .i64 t514, .slice Ao56 t515.length co56] 24 (0, 0)) (af_ NB519_526.out BK519.out) hb); replace BK526 := As_ (blk_below (g := gb526) (o := .cells #[.int .i64 t520, .int .i64 t521, .slice Ao64 t522.length co64] 24 (0, 0)) (ap_ BK526.out) hb); replace HB := As_ (below_step (zb5_ HB.out GE490.out GE497.out GE504.out GE519.out GE526.out) hb); clear HO_491002 HO_498002 HO_505002 HO517 HO524; have HO_491002 := n0_; have HO_498002 := n1_; have HO_505002 := n2_; have HO517 := n3_; have HO524 := n4_; clear n0_ n1_ n2_ n3_ n4_; (try clear hb); (try clear hb2); (try clear hk); (try clear hi); (try clear ho0)) | ((with_reducible refine gate_dst (N := 15) rfl ?_); (try (refine gate_guard (by rfl) ?_; dsimp only)); refine box_event ?hg (N := 15) ?hd (cs := #[.int .i64 0, .int .i64 0, .slice none 0 0]) (t := 24) ?hr ?_; (case hd => rfl); (case hg => rfl); (case hr => first | (go_simp; done) | (go_simp; rfl)); intro gb533 hg w67 hbox hb; have n0_ := As_ (Kd.R_below (rk_ HO_491002.out) hb); have n1_ := As_ (Kd.R_below (rk_ HO_498002.out) hb); have n2_ := As_ (Kd.R_below (rk_ HO_505002.out) hb); have n3_ := As_ (Kd.R_below (rk_ HO517.out) hb); have n4_ := As_ (Kd.R_below (rk_ HO524.out) hb); have n5_ := As_ (Kd.R_below (rk_ HO531.out) hb); have n6_ := As_ (blk_below (g := gb490) (o := .cells #[.int .i64 t484, .int .i64 t485, .slice Ao12 t486.length co12] 24 (0, 0)) (ak_ BK490.out) hb); have n7_ := As_ (blk_below (g := gb497) (o := .cells #[.int .i64 t491, .int .i64 t492, .slice Ao17 t493.length co17] 24 (0, 0)) (ak_ BK497.out) hb); have n8_ := As_ (blk_below (g := gb504) (o := .cells #[.int .i64 t498, .int .i64 t499, .slice Ao24 t500.length co24] 24 (0, 0)) (ak_ BK504.out) hb); have n9_ := As_ (blk_below (g := gb519) (o := .cells #[.int .i64 t513, .int .i64 t514, .slice Ao56 t515.length co56] 24 (0, 0)) (ak_ BK519.out) hb); have n10_ := As_ (blk_below (g := gb526) (o := .cells #[.int .i64 t520, .int .i64 t521, .slice Ao64 t522.length co64] 24 (0, 0)) (ak_ BK526.out) hb); have n11_ := As_ (below_step (zb5_ HB.out GE490.out GE497.out GE504.out GE519.out GE526.out) hb); have n12_ := As_ (hbox); have n13_ := As_ ((sb_ hg (zb5_ HB.out GE490.out GE497.out GE504.out GE519.out GE526.out) : w.heap.size ≤ gb533)); have n14_ := As_ ((sb_ hg (zb5_ HB.out GE490.out GE497.out GE504.out GE519.out GE526.out) : w.heap.size ≤ gb533)); have n15_ := As_ ((nl_ hg BK490.out : gb490 ≠ gb533)); have n16_ := As_ ((ng_ hg BK490.out : gb533 ≠ gb490)); have n17_ := As_ ((nl_ hg BK497.out : gb497 ≠ gb533)); have n18_ := As_ ((ng_ hg BK497.out : gb533 ≠ gb497)); have n19_ := As_ ((nl_ hg BK504.out : gb504 ≠ gb533)); have n20_ := As_ ((ng_ hg BK504.out : gb533 ≠ gb504)); have n21_ := As_ ((nl_ hg BK519.out : gb519 ≠ gb533)); have n22_ := As_ ((ng_ hg BK519.out : gb533 ≠ gb519)); have n23_ := As_ ((nl_ hg BK526.out : gb526 ≠ gb533)); have n24_ := As_ ((ng_ hg BK526.out : gb533 ≠ gb526)); clear HO_491002 HO_498002 HO_505002 HO517 HO524 HO531 BK490 BK497 BK504 BK519 BK526 HB; have HO_491002 := n0_; have HO_498002 := n1_; have HO_505002 := n2_; have HO517 := n3_; have HO524 := n4_; have HO531 := n5_; have BK490 := n6_; have BK497 := n7_; have BK504 := n8_; have BK519 := n9_; have BK526 := n10_; have HB := n11_; have BK533 := n12_; have GW533 := n13_; have GE533 := n14_; have NB490_533 := n15_; have NB533_490 := n16_; have NB497_533 := n17_; have NB533_497 := n18_; have NB504_533 := n19_; have NB533_504 := n20_; have NB519_533 := n21_; have NB533_519 := n22_; have NB526_533 := n23_; have NB533_526 := n24_; clear n0_ n1_ n2_ n3_ n4_ n5_ n6_ n7_ n8_ n9_ n10_ n11_ n12_ n13_ n14_ n15_ n16_ n17_ n18_ n19_ n20_ n21_ n22_ n23_ n24_ hb hbox hg; have hnb68 := NB533_490.out; have hnc68 := NB490_533.out; have hnb69 := NB533_497.out; have hnc69 := NB497_533.out; have hnb70 := NB533_504.out; have hnc70 := NB504_533.out; have hnb71 := NB533_519.out; have hnc71 := NB519_533.out; have hnb72 := NB533_526.out; have hnc72 := NB526_533.out; obtain ⟨hcz73_0, hcz73_1, hcz73_2, hfz73_0, hfz73_1, hfz73_2⟩ := blk_all3 BK533.out; obtain ⟨Ao74, co74, eo74⟩ := Kd.R_slice HO531.out; subst eo74))
          repeat (go_quiet (first | (go_at_call 37; (with_reducible refine (spec_DrawNewInit.calls kj7 _ _ l0 t513 t514 t515 t518 _ ?side1 ?side2 A46.out).mono ?_); (case side1 => repeat (first | exact (Kd.C_below HR0.out HB.out) | (with_reducible first | apply cA_ | apply cN_ | apply cD_))); (case side2 => exact HC0.out); rintro e w50 ⟨v516, rfl, ho0, hb⟩; have n0_ := As_ (Kd.R_elder' (rk_ HO_491002.out) (Kd.R_base ho0) hb); have n1_ := As_ (Kd.R_elder' (rk_ HO_498002.out) (Kd.R_base ho0) hb); have n2_ := As_ (Kd.R_elder' (rk_ HO_505002.out) (Kd.R_base ho0) hb); have HO517 := As_ (Kd.R_lower (Kd.R_new' (Kd.R_new' (Kd.R_new' ho0 (Kd.R_lt (rk_ HO_491002.out))) (Kd.R_lt (rk_ HO_498002.out))) (Kd.R_lt (rk_ HO_505002.out))) (below_size (zb3_ HB.out GE490.out GE497.out GE504.out))); replace BK490 := As_ (blk_below (g := gb490) (o := .cells #[.int .i64 t484, .int .i64 t485, .slice Ao12 t486.length co12] 24 (0, 0)) (ak_ BK490.out) hb); replace BK497 := As_ (blk_below (g := gb497) (o := .cells #[.int .i64 t491, .int .i64 t492, .slice Ao17 t493.length co17] 24 (0, 0)) (ak_ BK497.out) hb); replace BK504 := As_ (blk_below (g := gb504) (o := .cells #[.int .i64 t498, .int .i64 t499, .slice Ao24 t500.length co24] 24 (0, 0)) (ak_ BK504.out) hb); replace HB := As_ (below_step (zb3_ HB.out GE490.out GE497.out GE504.out) hb); clear HO_491002 HO_498002 HO_505002; have HO_491002 := n0_; have HO_498002 := n1_; have HO_505002 := n2_; clear n0_ n1_ n2_; (try clear hb); (try clear hb2); (try clear hk); (try clear hi); (try clear ho0)) | ((with_reducible refine gate_dst (N := 11) rfl ?_); (try (refine gate_guard (by rfl) ?_; dsimp only)); refine box_event ?hg (N := 11) ?hd (cs := #[.int .i64 0, .int .i64 0, .slice none 0 0]) (t := 24) ?hr ?_; (case hd => rfl); (case hg => rfl); (case hr => first | (go_simp; done) | (go_simp; rfl)); intro gb519 hg w51 hbox hb; have n0_ := As_ (Kd.R_below (rk_ HO_491002.out) hb); have n1_ := As_ (Kd.R_below (rk_ HO_498002.out) hb); have n2_ := As_ (Kd.R_below (rk_ HO_505002.out) hb); have n3_ := As_ (Kd.R_below (rk_ HO517.out) hb); have n4_ := As_ (blk_below (g := gb490) (o := .cells #[.int .i64 t484, .int .i64 t485, .slice Ao12 t486.length co12] 24 (0, 0)) (ak_ BK490.out) hb); have n5_ := As_ (blk_below (g := gb497) (o := .cells #[.int .i64 t491, .int .i64 t492, .slice Ao17 t493.length co17] 24 (0, 0)) (ak_ BK497.out) hb); have n6_ := As_ (blk_below (g := gb504) (o := .cells #[.int .i64 t498, .int .i64 t499, .slice Ao24 t500.length co24] 24 (0, 0)) (ak_ BK504.out) hb); have n7_ := As_ (below_step (zb3_ HB.out GE490.out GE497.out GE504.out) hb); have n8_ := As_ (hbox); have n9_ := As_ ((sb_ hg (zb3_ HB.out GE490.out GE497.out GE504.out) : w.heap.size ≤ gb519)); have n10_ := As_ ((sb_ hg (zb3_ HB.out GE490.out GE497.out GE504.out) : w.heap.size ≤ gb519)); have n11_ := As_ ((nl_ hg BK490.out : gb490 ≠ gb519)); have n12_ := As_ ((ng_ hg BK490.out : gb519 ≠ gb490)); have n13_ := As_ ((nl_ hg BK497.out : gb497 ≠ gb519)); have n14_ := As_ ((ng_ hg BK497.out : gb519 ≠ gb497)); have n15_ := As_ ((nl_ hg BK504.out : gb504 ≠ gb519)); have n16_ := As_ ((ng_ hg BK504.out : gb519 ≠ gb504)); clear HO_491002 HO_498002 HO_505002 HO517 BK490 BK497 BK504 HB; have HO_491002 := n0_; have HO_498002 := n1_; have HO_505002 := n2_; have HO517 := n3_; have BK490 := n4_; have BK497 := n5_; have BK504 := n6_; have HB := n7_; have BK519 := n8_; have GW519 := n9_; have GE519 := n10_; have NB490_519 := n11_; have NB519_490 := n12_; have NB497_519 := n13_; have NB519_497 := n14_; have NB504_519 := n15_; have NB519_504 := n16_; clear n0_ n1_ n2_ n3_ n4_ n5_ n6_ n7_ n8_ n9_ n10_ n11_ n12_ n13_ n14_ n15_ n16_ hb hbox hg; have hnb52 := NB519_490.out; have hnc52 := NB490_519.out; have hnb53 := NB519_497.out; have hnc53 := NB497_519.out; have hnb54 := NB519_504.out; have hnc54 := NB504_519.out; obtain ⟨hcz55_0, hcz55_1, hcz55_2, hfz55_0, hfz55_1, hfz55_2⟩ := blk_all3 BK519.out; obtain ⟨Ao56, co56, eo56⟩ := Kd.R_slice HO517.out; subst eo56) | (go_at_call 25; (with_reducible refine (impl_NewInit.calls kj7 t513 t514 _ _ t515 t518 t520 t521 t522 t525 _ ?side1 ?side2 A47.out).mono ?_); (case side1 => refine (Kd.R_reads' (e := 48) (base := w.heap.size) (ok := fun k_ => (((True ∧ some k_ ≠ (.slice Ao12 t486.length co12 : Value).ownBlock) ∧ some k_ ≠ (.slice Ao17 t493.length co17 : Value).ownBlock) ∧ some k_ ≠ (.slice Ao24 t500.length co24 : Value).ownBlock)) (n := t515.length) (c := co56) ?_).2.2; exact (rf3_ HO517.out BK519.out)); (case side2 => exact (Kd.R_reads' HO517.out).2.1); rintro e w57 ⟨v523, rfl, ho0, hb⟩; have n0_ := As_ (Kd.R_elder' (rf3_ HO_491002.out BK519.out) (Kd.R_base ho0) hb); have n1_ := As_ (Kd.R_elder' (rf3_ HO_498002.out BK519.out) (Kd.R_base ho0) hb); have n2_ := As_ (Kd.R_elder' (rf3_ HO_505002.out BK519.out) (Kd.R_base ho0) hb); have n3_ := As_ (Kd.R_elder' (rf3_ HO517.out BK519.out) (Kd.R_base ho0) hb); have HO524 := As_ (Kd.R_lower (Kd.R_new' (Kd.R_new' (Kd.R_new' (Kd.R_new' ho0 (Kd.R_lt (rf3_ HO_491002.out BK519.out))) (Kd.R_lt (rf3_ HO_498002.out BK519.out))) (Kd.R_lt (rf3_ HO_505002.out BK519.out))) (Kd.R_lt (rf3_ HO517.out BK519.out))) (below_size (zb4_ HB.out GE490.out GE497.out GE504.out GE519.out))); replace BK490 := As_ (blk_below (g := gb490) (o := .cells #[.int .i64 t484, .int .i64 t485, .slice Ao12 t486.length co12] 24 (0, 0)) (af_ NB490_519.out BK490.out) hb); replace BK497 := As_ (blk_below (g := gb497) (o := .cells #[.int .i64 t491, .int .i64 t492, .slice Ao17 t493.length co17] 24 (0, 0)) (af_ NB497_519.out BK497.out) hb); replace BK504 := As_ (blk_below (g := gb504) (o := .cells #[.int .i64 t498, .int .i64 t499, .slice Ao24 t500.length co24] 24 (0, 0)) (af_ NB504_519.out BK504.out) hb); replace BK519 := As_ (blk_below (g := gb519) (o := .cells #[.int .i64 t513, .int .i64 t514, .slice Ao56 t515.length co56] 24 (0, 0)) (ap_ BK519.out) hb); replace HB := As_ (below_step (zb4_ HB.out GE490.out GE497.out GE504.out GE519.out) hb); clear HO_491002 HO_498002 HO_505002 HO517; have HO_491002 := n0_; have HO_498002 := n1_; have HO_505002 := n2_; have HO517 := n3_; clear n0_ n1_ n2_ n3_; (try clear hb); (try clear hb2); (try clear hk); (try clear hi); (try clear ho0)) | ((with_reducible refine gate_dst (N := 13) rfl ?_); (try (refine gate_guard (by rfl) ?_; dsimp only)); refine box_event ?hg (N := 13) ?hd (cs := #[.int .i64 0, .int .i64 0, .slice none 0 0]) (t := 24) ?hr ?_; (case hd => rfl); (case hg => rfl); (case hr => first | (go_simp; done) | (go_simp; rfl)); intro gb526 hg w58 hbox hb; have n0_ := As_ (Kd.R_below (rk_ HO_491002.out) hb); have n1_ := As_ (Kd.R_below (rk_ HO_498002.out) hb); have n2_ := As_ (Kd.R_below (rk_ HO_505002.out) hb); have n3_ := As_ (Kd.R_below (rk_ HO517.out) hb); have n4_ := As_ (Kd.R_below (rk_ HO524.out) hb); have n5_ := As_ (blk_below (g := gb490) (o := .cells #[.int .i64 t484, .int .i64 t485, .slice Ao12 t486.length co12] 24 (0, 0)) (ak_ BK490.out) hb); have n6_ := As_ (blk_below (g := gb497) (o := .cells #[.int .i64 t491, .int .i64 t492, .slice Ao17 t493.length co17] 24 (0, 0)) (ak_ BK497.out) hb); have n7_ := As_ (blk_below (g := gb504) (o := .cells #[.int .i64 t498, .int .i64 t499, .slice Ao24 t500.length co24] 24 (0, 0)) (ak_ BK504.out) hb); have n8_ := As_ (blk_below (g := gb519) (o := .cells #[.int .i64 t513, .int .i64 t514, .slice Ao56 t515.length co56] 24 (0, 0)) (ak_ BK519.out) hb); have n9_ := As_ (below_step (zb4_ HB.out GE490.out GE497.out GE504.out GE519.out) hb); have n10_ := As_ (hbox); have n11_ := As_ ((sb_ hg (zb4_ HB.out GE490.out GE497.out GE504.out GE519.out) : w.heap.size ≤ gb526)); have n12_ := As_ ((sb_ hg (zb4_ HB.out GE490.out GE497.out GE504.out GE519.out) : w.heap.size ≤ gb526)); have n13_ := As_ ((nl_ hg BK490.out : gb490 ≠ gb526)); have n14_ := As_ ((ng_ hg BK490.out : gb526 ≠ gb490)); have n15_ := As_ ((nl_ hg BK497.out : gb497 ≠ gb526)); have n16_ := As_ ((ng_ hg BK497.out : gb526 ≠ gb497)); have n17_ := As_ ((nl_ hg BK504.out : gb504 ≠ gb526)); have n18_ := As_ ((ng_ hg BK504.out : gb526 ≠ gb504)); have n19_ := As_ ((nl_ hg BK519.out : gb519 ≠ gb526)); have n20_ := As_ ((ng_ hg BK519.out : gb526 ≠ gb519)); clear HO_491002 HO_498002 HO_505002 HO517 HO524 BK490 BK497 BK504 BK519 HB; have HO_491002 := n0_; have HO_498002 := n1_; have HO_505002 := n2_; have HO517 := n3_; have HO524 := n4_; have BK490 := n5_; have BK497 := n6_; have BK504 := n7_; have BK519 := n8_; have HB := n9_; have BK526 := n10_; have GW526 := n11_; have GE526 := n12_; have NB490_526 := n13_; have NB526_490 := n14_; have NB497_526 := n15_; have NB526_497 := n16_; have NB504_526 := n17_; have NB526_504 := n18_; have NB519_526 := n19_; have NB526_519 := n20_; clear n0_ n1_ n2_ n3_ n4_ n5_ n6_ n7_ n8_ n9_ n10_ n11_ n12_ n13_ n14_ n15_ n16_ n17_ n18_ n19_ n20_ hb hbox hg; have hnb59 := NB526_490.out; have hnc59 := NB490_526.out; have hnb60 := NB526_497.out; have hnc60 := NB497_526.out; have hnb61 := NB526_504.out; have hnc61 := NB504_526.out; have hnb62 := NB526_519.out; have hnc62 := NB519_526.out; obtain ⟨hcz63_0, hcz63_1, hcz63_2, hfz63_0, hfz63_1, hfz63_2⟩ := blk_all3 BK526.out; obtain ⟨Ao64, co64, eo64⟩ := Kd.R_slice HO524.out; subst eo64; obtain ⟨hcz65_0, hcz65_1, hcz65_2, hfz65_0, hfz65_1, hfz65_2⟩ := blk_all3 BK519.out) | (go_at_call 24; (with_reducible refine (spec_NewInit.calls kj7 t513 t514 _ _ t515 t518 t527 t528 t529 t532 _ ?side1 ?side2 A48.out).mono ?_); (case side1 => refine (Kd.R_reads' (e := 48) (base := w.heap.size) (ok := fun k_ => ((((True ∧ some k_ ≠ (.slice Ao12 t486.length co12 : Value).ownBlock) ∧ some k_ ≠ (.slice Ao17 t493.length co17 : Value).ownBlock) ∧ some k_ ≠ (.slice Ao24 t500.length co24 : Value).ownBlock) ∧ some k_ ≠ (.slice Ao64 t522.length co64 : Value).ownBlock)) (n := t515.length) (c := co56) ?_).2.2; exact (rf3_ HO517.out BK526.out)); (case side2 => exact (Kd.R_reads' HO517.out).2.1); rintro e w66 ⟨v530, rfl, ho0, hb⟩; have n0_ := As_ (Kd.R_elder' (rf3_ HO_491002.out BK526.out) (Kd.R_base ho0) hb); have n1_ := As_ (Kd.R_elder' (rf3_ HO_498002.out BK526.out) (Kd.R_base ho0) hb); have n2_ := As_ (Kd.R_elder' (rf3_ HO_505002.out BK526.out) (Kd.R_base ho0) hb); have n3_ := As_ (Kd.R_elder' (rf3_ HO517.out BK526.out) (Kd.R_base ho0) hb); have n4_ := As_ (Kd.R_elder' (rf3_ HO524.out BK526.out) (Kd.R_base ho0) hb); have HO531 := As_ (Kd.R_lower (Kd.R_new' (Kd.R_new' (Kd.R_new' (Kd.R_new' (Kd.R_new' ho0 (Kd.R_lt (rf3_ HO_491002.out BK526.out))) (Kd.R_lt (rf3_ HO_498002.out BK526.out))) (Kd.R_lt (rf3_ HO_505002.out BK526.out))) (Kd.R_lt (rf3_ HO517.out BK526.out))) (Kd.R_lt (rf3_ HO524.out BK526.out))) (below_size (zb5_ HB.out GE490.out GE497.out GE504.out GE519.out GE526.out))); replace BK490 := As_ (blk_below (g := gb490) (o := .cells #[.int .i64 t484, .int .i64 t485, .slice Ao12 t486.length co12] 24 (0, 0)) (af_ NB490_526.out BK490.out) hb); replace BK497 := As_ (blk_below (g := gb497) (o := .cells #[.int .i64 t491, .int .i64 t492, .slice Ao17 t493.length co17] 24 (0, 0)) (af_ NB497_526.out BK497.out) hb); replace BK504 := As_ (blk_below (g := gb504) (o := .cells #[.int .i64 t498, .int .i64 t499, .slice Ao24 t500.length co24] 24 (0, 0)) (af_ NB504_526.out BK504.out) hb); replace BK519 := As_ (blk_below (g := gb519) (o := .cells #[.int .i64 t513, .int .i64 t514, .slice Ao56 t515.length co56] 24 (0, 0)) (af_ NB519_526.out BK519.out) hb); replace BK526 := As_ (blk_below (g := gb526) (o := .cells #[.int .i64 t520, .int .i64 t521, .slice Ao64 t522.length co64] 24 (0, 0)) (ap_ BK526.out) hb); replace HB := As_ (below_step (zb5_ HB.out GE490.out GE497.out GE504.out GE519.out GE526.out) hb); clear HO_491002 HO_498002 HO_505002 HO517 HO524; have HO_491002 := n0_; have HO_498002 := n1_; have HO_505002 := n2_; have HO517 := n3_; have HO524 := n4_; clear n0_ n1_ n2_ n3_ n4_; (try clear hb); (try clear hb2); (try clear hk); (try clear hi); (try clear ho0)) | ((with_reducible refine gate_dst (N := 15) rfl ?_); (try (refine gate_guard (by rfl) ?_; dsimp only)); refine box_event ?hg (N := 15) ?hd (cs := #[.int .i64 0, .int .i64 0, .slice none 0 0]) (t := 24) ?hr ?_; (case hd => rfl); (case hg => rfl); (case hr => first | (go_simp; done) | (go_simp; rfl)); intro gb533 hg w67 hbox hb; have n0_ := As_ (Kd.R_below (rk_ HO_491002.out) hb); have n1_ := As_ (Kd.R_below (rk_ HO_498002.out) hb); have n2_ := As_ (Kd.R_below (rk_ HO_505002.out) hb); have n3_ := As_ (Kd.R_below (rk_ HO517.out) hb); have n4_ := As_ (Kd.R_below (rk_ HO524.out) hb); have n5_ := As_ (Kd.R_below (rk_ HO531.out) hb); have n6_ := As_ (blk_below (g := gb490) (o := .cells #[.int .i64 t484, .int .i64 t485, .slice Ao12 t486.length co12] 24 (0, 0)) (ak_ BK490.out) hb); have n7_ := As_ (blk_below (g := gb497) (o := .cells #[.int .i64 t491, .int .i64 t492, .slice Ao17 t493.length co17] 24 (0, 0)) (ak_ BK497.out) hb); have n8_ := As_ (blk_below (g := gb504) (o := .cells #[.int .i64 t498, .int .i64 t499, .slice Ao24 t500.length co24] 24 (0, 0)) (ak_ BK504.out) hb); have n9_ := As_ (blk_below (g := gb519) (o := .cells #[.int .i64 t513, .int .i64 t514, .slice Ao56 t515.length co56] 24 (0, 0)) (ak_ BK519.out) hb); have n10_ := As_ (blk_below (g := gb526) (o := .cells #[.int .i64 t520, .int .i64 t521, .slice Ao64 t522.length co64] 24 (0, 0)) (ak_ BK526.out) hb); have n11_ := As_ (below_step (zb5_ HB.out GE490.out GE497.out GE504.out GE519.out GE526.out) hb); have n12_ := As_ (hbox); have n13_ := As_ ((sb_ hg (zb5_ HB.out GE490.out GE497.out GE504.out GE519.out GE526.out) : w.heap.size ≤ gb533)); have n14_ := As_ ((sb_ hg (zb5_ HB.out GE490.out GE497.out GE504.out GE519.out GE526.out) : w.heap.size ≤ gb533)); have n15_ := As_ ((nl_ hg BK490.out : gb490 ≠ gb533)); have n16_ := As_ ((ng_ hg BK490.out : gb533 ≠ gb490)); have n17_ := As_ ((nl_ hg BK497.out : gb497 ≠ gb533)); have n18_ := As_ ((ng_ hg BK497.out : gb533 ≠ gb497)); have n19_ := As_ ((nl_ hg BK504.out : gb504 ≠ gb533)); have n20_ := As_ ((ng_ hg BK504.out : gb533 ≠ gb504)); have n21_ := As_ ((nl_ hg BK519.out : gb519 ≠ gb533)); have n22_ := As_ ((ng_ hg BK519.out : gb533 ≠ gb519)); have n23_ := As_ ((nl_ hg BK526.out : gb526 ≠ gb533)); have n24_ := As_ ((ng_ hg BK526.out : gb533 ≠ gb526)); clear HO_491002 HO_498002 HO_505002 HO517 HO524 HO531 BK490 BK497 BK504 BK519 BK526 HB; have HO_491002 := n0_; have HO_498002 := n1_; have HO_505002 := n2_; have HO517 := n3_; have HO524 := n4_; have HO531 := n5_; have BK490 := n6_; have BK497 := n7_; have BK504 := n8_; have BK519 := n9_; have BK526 := n10_; have HB := n11_; have BK533 := n12_; have GW533 := n13_; have GE533 := n14_; have NB490_533 := n15_; have NB533_490 := n16_; have NB497_533 := n17_; have NB533_497 := n18_; have NB504_533 := n19_; have NB533_504 := n20_; have NB519_533 := n21_; have NB533_519 := n22_; have NB526_533 := n23_; have NB533_526 := n24_; clear n0_ n1_ n2_ n3_ n4_ n5_ n6_ n7_ n8_ n9_ n10_ n11_ n12_ n13_ n14_ n15_ n16_ n17_ n18_ n19_ n20_ n21_ n22_ n23_ n24_ hb hbox hg; have hnb68 := NB533_490.out; have hnc68 := NB490_533.out; have hnb69 := NB533_497.out; have hnc69 := NB497_533.out; have hnb70 := NB533_504.out; have hnc70 := NB504_533.out; have hnb71 := NB533_519.out; have hnc71 := NB519_533.out; have hnb72 := NB533_526.out; have hnc72 := NB526_533.out; obtain ⟨hcz73_0, hcz73_1, hcz73_2, hfz73_0, hfz73_1, hfz73_2⟩ := blk_all3 BK533.out; obtain ⟨Ao74, co74, eo74⟩ := Kd.R_slice HO531.out; subst eo74)); go_upto_region 15 with (first | (go_at_call 37; (with_reducible refine (spec_DrawNewInit.calls kj7 _ _ l0 t513 t514 t515 t518 _ ?side1 ?side2 A46.out).mono ?_); (case side1 => repeat (first | exact (Kd.C_below HR0.out HB.out) | (with_reducible first | apply cA_ | apply cN_ | apply cD_))); (case side2 => exact HC0.out); rintro e w50 ⟨v516, rfl, ho0, hb⟩; have n0_ := As_ (Kd.R_elder' (rk_ HO_491002.out) (Kd.R_base ho0) hb); have n1_ := As_ (Kd.R_elder' (rk_ HO_498002.out) (Kd.R_base ho0) hb); have n2_ := As_ (Kd.R_elder' (rk_ HO_505002.out) (Kd.R_base ho0) hb); have HO517 := As_ (Kd.R_lower (Kd.R_new' (Kd.R_new' (Kd.R_new' ho0 (Kd.R_lt (rk_ HO_491002.out))) (Kd.R_lt (rk_ HO_498002.out))) (Kd.R_lt (rk_ HO_505002.out))) (below_size (zb3_ HB.out GE490.out GE497.out GE504.out))); replace BK490 := As_ (blk_below (g := gb490) (o := .cells #[.int .i64 t484, .int .i64 t485, .slice Ao12 t486.length co12] 24 (0, 0)) (ak_ BK490.out) hb); replace BK497 := As_ (blk_below (g := gb497) (o := .cells #[.int .i64 t491, .int .i64 t492, .slice Ao17 t493.length co17] 24 (0, 0)) (ak_ BK497.out) hb); replace BK504 := As_ (blk_below (g := gb504) (o := .cells #[.int .i64 t498, .int .i64 t499, .slice Ao24 t500.length co24] 24 (0, 0)) (ak_ BK504.out) hb); replace HB := As_ (below_step (zb3_ HB.out GE490.out GE497.out GE504.out) hb); clear HO_491002 HO_498002 HO_505002; have HO_491002 := n0_; have HO_498002 := n1_; have HO_505002 := n2_; clear n0_ n1_ n2_; (try clear hb); (try clear hb2); (try clear hk); (try clear hi); (try clear ho0)) | ((with_reducible refine gate_dst (N := 11) rfl ?_); (try (refine gate_guard (by rfl) ?_; dsimp only)); refine box_event ?hg (N := 11) ?hd (cs := #[.int .i64 0, .int .i64 0, .slice none 0 0]) (t := 24) ?hr ?_; (case hd => rfl); (case hg => rfl); (case hr => first | (go_simp; done) | (go_simp; rfl)); intro gb519 hg w51 hbox hb; have n0_ := As_ (Kd.R_below (rk_ HO_491002.out) hb); have n1_ := As_ (Kd.R_below (rk_ HO_498002.out) hb); have n2_ := As_ (Kd.R_below (rk_ HO_505002.out) hb); have n3_ := As_ (Kd.R_below (rk_ HO517.out) hb); have n4_ := As_ (blk_below (g := gb490) (o := .cells #[.int .i64 t484, .int .i64 t485, .slice Ao12 t486.length co12] 24 (0, 0)) (ak_ BK490.out) hb); have n5_ := As_ (blk_below (g := gb497) (o := .cells #[.int .i64 t491, .int .i64 t492, .slice Ao17 t493.length co17] 24 (0, 0)) (ak_ BK497.out) hb); have n6_ := As_ (blk_below (g := gb504) (o := .cells #[.int .i64 t498, .int .i64 t499, .slice Ao24 t500.length co24] 24 (0, 0)) (ak_ BK504.out) hb); have n7_ := As_ (below_step (zb3_ HB.out GE490.out GE497.out GE504.out) hb); have n8_ := As_ (hbox); have n9_ := As_ ((sb_ hg (zb3_ HB.out GE490.out GE497.out GE504.out) : w.heap.size ≤ gb519)); have n10_ := As_ ((sb_ hg (zb3_ HB.out GE490.out GE497.out GE504.out) : w.heap.size ≤ gb519)); have n11_ := As_ ((nl_ hg BK490.out : gb490 ≠ gb519)); have n12_ := As_ ((ng_ hg BK490.out : gb519 ≠ gb490)); have n13_ := As_ ((nl_ hg BK497.out : gb497 ≠ gb519)); have n14_ := As_ ((ng_ hg BK497.out : gb519 ≠ gb497)); have n15_ := As_ ((nl_ hg BK504.out : gb504 ≠ gb519)); have n16_ := As_ ((ng_ hg BK504.out : gb519 ≠ gb504)); clear HO_491002 HO_498002 HO_505002 HO517 BK490 BK497 BK504 HB; have HO_491002 := n0_; have HO_498002 := n1_; have HO_505002 := n2_; have HO517 := n3_; have BK490 := n4_; have BK497 := n5_; have BK504 := n6_; have HB := n7_; have BK519 := n8_; have GW519 := n9_; have GE519 := n10_; have NB490_519 := n11_; have NB519_490 := n12_; have NB497_519 := n13_; have NB519_497 := n14_; have NB504_519 := n15_; have NB519_504 := n16_; clear n0_ n1_ n2_ n3_ n4_ n5_ n6_ n7_ n8_ n9_ n10_ n11_ n12_ n13_ n14_ n15_ n16_ hb hbox hg; have hnb52 := NB519_490.out; have hnc52 := NB490_519.out; have hnb53 := NB519_497.out; have hnc53 := NB497_519.out; have hnb54 := NB519_504.out; have hnc54 := NB504_519.out; obtain ⟨hcz55_0, hcz55_1, hcz55_2, hfz55_0, hfz55_1, hfz55_2⟩ := blk_all3 BK519.out; obtain ⟨Ao56, co56, eo56⟩ := Kd.R_slice HO517.out; subst eo56) | (go_at_call 25; (with_reducible refine (impl_NewInit.calls kj7 t513 t514 _ _ t515 t518 t520 t521 t522 t525 _ ?side1 ?side2 A47.out).mono ?_); (case side1 => refine (Kd.R_reads' (e := 48) (base := w.heap.size) (ok := fun k_ => (((True ∧ some k_ ≠ (.slice Ao12 t486.length co12 : Value).ownBlock) ∧ some k_ ≠ (.slice Ao17 t493.length co17 : Value).ownBlock) ∧ some k_ ≠ (.slice Ao24 t500.length co24 : Value).ownBlock)) (n := t515.length) (c := co56) ?_).2.2; exact (rf3_ HO517.out BK519.out)); (case side2 => exact (Kd.R_reads' HO517.out).2.1); rintro e w57 ⟨v523, rfl, ho0, hb⟩; have n0_ := As_ (Kd.R_elder' (rf3_ HO_491002.out BK519.out) (Kd.R_base ho0) hb); have n1_ := As_ (Kd.R_elder' (rf3_ HO_498002.out BK519.out) (Kd.R_base ho0) hb); have n2_ := As_ (Kd.R_elder' (rf3_ HO_505002.out BK519.out) (Kd.R_base ho0) hb); have n3_ := As_ (Kd.R_elder' (rf3_ HO517.out BK519.out) (Kd.R_base ho0) hb); have HO524 := As_ (Kd.R_lower (Kd.R_new' (Kd.R_new' (Kd.R_new' (Kd.R_new' ho0 (Kd.R_lt (rf3_ HO_491002.out BK519.out))) (Kd.R_lt (rf3_ HO_498002.out BK519.out))) (Kd.R_lt (rf3_ HO_505002.out BK519.out))) (Kd.R_lt (rf3_ HO517.out BK519.out))) (below_size (zb4_ HB.out GE490.out GE497.out GE504.out GE519.out))); replace BK490 := As_ (blk_below (g := gb490) (o := .cells #[.int .i64 t484, .int .i64 t485, .slice Ao12 t486.length co12] 24 (0, 0)) (af_ NB490_519.out BK490.out) hb); replace BK497 := As_ (blk_below (g := gb497) (o := .cells #[.int .i64 t491, .int .i64 t492, .slice Ao17 t493.length co17] 24 (0, 0)) (af_ NB497_519.out BK497.out) hb); replace BK504 := As_ (blk_below (g := gb504) (o := .cells #[.int .i64 t498, .int .i64 t499, .slice Ao24 t500.length co24] 24 (0, 0)) (af_ NB504_519.out BK504.out) hb); replace BK519 := As_ (blk_below (g := gb519) (o := .cells #[.int .i64 t513, .int .i64 t514, .slice Ao56 t515.length co56] 24 (0, 0)) (ap_ BK519.out) hb); replace HB := As_ (below_step (zb4_ HB.out GE490.out GE497.out GE504.out GE519.out) hb); clear HO_491002 HO_498002 HO_505002 HO517; have HO_491002 := n0_; have HO_498002 := n1_; have HO_505002 := n2_; have HO517 := n3_; clear n0_ n1_ n2_ n3_; (try clear hb); (try clear hb2); (try clear hk); (try clear hi); (try clear ho0)) | ((with_reducible refine gate_dst (N := 13) rfl ?_); (try (refine gate_guard (by rfl) ?_; dsimp only)); refine box_event ?hg (N := 13) ?hd (cs := #[.int .i64 0, .int .i64 0, .slice none 0 0]) (t := 24) ?hr ?_; (case hd => rfl); (case hg => rfl); (case hr => first | (go_simp; done) | (go_simp; rfl)); intro gb526 hg w58 hbox hb; have n0_ := As_ (Kd.R_below (rk_ HO_491002.out) hb); have n1_ := As_ (Kd.R_below (rk_ HO_498002.out) hb); have n2_ := As_ (Kd.R_below (rk_ HO_505002.out) hb); have n3_ := As_ (Kd.R_below (rk_ HO517.out) hb); have n4_ := As_ (Kd.R_below (rk_ HO524.out) hb); have n5_ := As_ (blk_below (g := gb490) (o := .cells #[.int .i64 t484, .int .i64 t485, .slice Ao12 t486.length co12] 24 (0, 0)) (ak_ BK490.out) hb); have n6_ := As_ (blk_below (g := gb497) (o := .cells #[.int .i64 t491, .int .i64 t492, .slice Ao17 t493.length co17] 24 (0, 0)) (ak_ BK497.out) hb); have n7_ := As_ (blk_below (g := gb504) (o := .cells #[.int .i64 t498, .int .i64 t499, .slice Ao24 t500.length co24] 24 (0, 0)) (ak_ BK504.out) hb); have n8_ := As_ (blk_below (g := gb519) (o := .cells #[.int .i64 t513, .int .i64 t514, .slice Ao56 t515.length co56] 24 (0, 0)) (ak_ BK519.out) hb); have n9_ := As_ (below_step (zb4_ HB.out GE490.out GE497.out GE504.out GE519.out) hb); have n10_ := As_ (hbox); have n11_ := As_ ((sb_ hg (zb4_ HB.out GE490.out GE497.out GE504.out GE519.out) : w.heap.size ≤ gb526)); have n12_ := As_ ((sb_ hg (zb4_ HB.out GE490.out GE497.out GE504.out GE519.out) : w.heap.size ≤ gb526)); have n13_ := As_ ((nl_ hg BK490.out : gb490 ≠ gb526)); have n14_ := As_ ((ng_ hg BK490.out : gb526 ≠ gb490)); have n15_ := As_ ((nl_ hg BK497.out : gb497 ≠ gb526)); have n16_ := As_ ((ng_ hg BK497.out : gb526 ≠ gb497)); have n17_ := As_ ((nl_ hg BK504.out : gb504 ≠ gb526)); have n18_ := As_ ((ng_ hg BK504.out : gb526 ≠ gb504)); have n19_ := As_ ((nl_ hg BK519.out : gb519 ≠ gb526)); have n20_ := As_ ((ng_ hg BK519.out : gb526 ≠ gb519)); clear HO_491002 HO_498002 HO_505002 HO517 HO524 BK490 BK497 BK504 BK519 HB; have HO_491002 := n0_; have HO_498002 := n1_; have HO_505002 := n2_; have HO517 := n3_; have HO524 := n4_; have BK490 := n5_; have BK497 := n6_; have BK504 := n7_; have BK519 := n8_; have HB := n9_; have BK526 := n10_; have GW526 := n11_; have GE526 := n12_; have NB490_526 := n13_; have NB526_490 := n14_; have NB497_526 := n15_; have NB526_497 := n16_; have NB504_526 := n17_; have NB526_504 := n18_; have NB519_526 := n19_; have NB526_519 := n20_; clear n0_ n1_ n2_ n3_ n4_ n5_ n6_ n7_ n8_ n9_ n10_ n11_ n12_ n13_ n14_ n15_ n16_ n17_ n18_ n19_ n20_ hb hbox hg; have hnb59 := NB526_490.out; have hnc59 := NB490_526.out; have hnb60 := NB526_497.out; have hnc60 := NB497_526.out; have hnb61 := NB526_504.out; have hnc61 := NB504_526.out; have hnb62 := NB526_519.out; have hnc62 := NB519_526.out; obtain ⟨hcz63_0, hcz63_1, hcz63_2, hfz63_0, hfz63_1, hfz63_2⟩ := blk_all3 BK526.out; obtain ⟨Ao64, co64, eo64⟩ := Kd.R_slice HO524.out; subst eo64; obtain ⟨hcz65_0, hcz65_1, hcz65_2, hfz65_0, hfz65_1, hfz65_2⟩ := blk_all3 BK519.out) | (go_at_call 24; (with_reducible refine (spec_NewInit.calls kj7 t513 t514 _ _ t515 t518 t527 t528 t529 t532 _ ?side1 ?side2 A48.out).mono ?_); (case side1 => refine (Kd.R_reads' (e := 48) (base := w.heap.size) (ok := fun k_ => ((((True ∧ some k_ ≠ (.slice Ao12 t486.length co12 : Value).ownBlock) ∧ some k_ ≠ (.slice Ao17 t493.length co17 : Value).ownBlock) ∧ some k_ ≠ (.slice Ao24 t500.length co24 : Value).ownBlock) ∧ some k_ ≠ (.slice Ao64 t522.length co64 : Value).ownBlock)) (n := t515.length) (c := co56) ?_).2.2; exact (rf3_ HO517.out BK526.out)); (case side2 => exact (Kd.R_reads' HO517.out).2.1); rintro e w66 ⟨v530, rfl, ho0, hb⟩; have n0_ := As_ (Kd.R_elder' (rf3_ HO_491002.out BK526.out) (Kd.R_base ho0) hb); have n1_ := As_ (Kd.R_elder' (rf3_ HO_498002.out BK526.out) (Kd.R_base ho0) hb); have n2_ := As_ (Kd.R_elder' (rf3_ HO_505002.out BK526.out) (Kd.R_base ho0) hb); have n3_ := As_ (Kd.R_elder' (rf3_ HO517.out BK526.out) (Kd.R_base ho0) hb); have n4_ := As_ (Kd.R_elder' (rf3_ HO524.out BK526.out) (Kd.R_base ho0) hb); have HO531 := As_ (Kd.R_lower (Kd.R_new' (Kd.R_new' (Kd.R_new' (Kd.R_new' (Kd.R_new' ho0 (Kd.R_lt (rf3_ HO_491002.out BK526.out))) (Kd.R_lt (rf3_ HO_498002.out BK526.out))) (Kd.R_lt (rf3_ HO_505002.out BK526.out))) (Kd.R_lt (rf3_ HO517.out BK526.out))) (Kd.R_lt (rf3_ HO524.out BK526.out))) (below_size (zb5_ HB.out GE490.out GE497.out GE504.out GE519.out GE526.out))); replace BK490 := As_ (blk_below (g := gb490) (o := .cells #[.int .i64 t484, .int .i64 t485, .slice Ao12 t486.length co12] 24 (0, 0)) (af_ NB490_526.out BK490.out) hb); replace BK497 := As_ (blk_below (g := gb497) (o := .cells #[.int .i64 t491, .int .i64 t492, .slice Ao17 t493.length co17] 24 (0, 0)) (af_ NB497_526.out BK497.out) hb); replace BK504 := As_ (blk_below (g := gb504) (o := .cells #[.int .i64 t498, .int .i64 t499, .slice Ao24 t500.length co24] 24 (0, 0)) (af_ NB504_526.out BK504.out) hb); replace BK519 := As_ (blk_below (g := gb519) (o := .cells #[.int .i64 t513, .int .i64 t514, .slice Ao56 t515.length co56] 24 (0, 0)) (af_ NB519_526.out BK519.out) hb); replace BK526 := As_ (blk_below (g := gb526) (o := .cells #[.int .i64 t520, .int .i64 t521, .slice Ao64 t522.length co64] 24 (0, 0)) (ap_ BK526.out) hb); replace HB := As_ (below_step (zb5_ HB.out GE490.out GE497.out GE504.out GE519.out GE526.out) hb); clear HO_491002 HO_498002 HO_505002 HO517 HO524; have HO_491002 := n0_; have HO_498002 := n1_; have HO_505002 := n2_; have HO517 := n3_; have HO524 := n4_; clear n0_ n1_ n2_ n3_ n4_; (try clear hb); (try clear hb2); (try clear hk); (try clear hi); (try clear ho0)) | ((with_reducible refine gate_dst (N := 15) rfl ?_); (try (refine gate_guard (by rfl) ?_; dsimp only)); refine box_event ?hg (N := 15) ?hd (cs := #[.int .i64 0, .int .i64 0, .slice none 0 0]) (t := 24) ?hr ?_; (case hd => rfl); (case hg => rfl); (case hr => first | (go_simp; done) | (go_simp; rfl)); intro gb533 hg w67 hbox hb; have n0_ := As_ (Kd.R_below (rk_ HO_491002.out) hb); have n1_ := As_ (Kd.R_below (rk_ HO_498002.out) hb); have n2_ := As_ (Kd.R_below (rk_ HO_505002.out) hb); have n3_ := As_ (Kd.R_below (rk_ HO517.out) hb); have n4_ := As_ (Kd.R_below (rk_ HO524.out) hb); have n5_ := As_ (Kd.R_below (rk_ HO531.out) hb); have n6_ := As_ (blk_below (g := gb490) (o := .cells #[.int .i64 t484, .int .i64 t485, .slice Ao12 t486.length co12] 24 (0, 0)) (ak_ BK490.out) hb); have n7_ := As_ (blk_below (g := gb497) (o := .cells #[.int .i64 t491, .int .i64 t492, .slice Ao17 t493.length co17] 24 (0, 0)) (ak_ BK497.out) hb); have n8_ := As_ (blk_below (g := gb504) (o := .cells #[.int .i64 t498, .int .i64 t499, .slice Ao24 t500.length co24] 24 (0, 0)) (ak_ BK504.out) hb); have n9_ := As_ (blk_below (g := gb519) (o := .cells #[.int .i64 t513, .int .i64 t514, .slice Ao56 t515.length co56] 24 (0, 0)) (ak_ BK519.out) hb); have n10_ := As_ (blk_below (g := gb526) (o := .cells #[.int .i64 t520, .int .i64 t521, .slice Ao64 t522.length co64] 24 (0, 0)) (ak_ BK526.out) hb); have n11_ := As_ (below_step (zb5_ HB.out GE490.out GE497.out GE504.out GE519.out GE526.out) hb); have n12_ := As_ (hbox); have n13_ := As_ ((sb_ hg (zb5_ HB.out GE490.out GE497.out GE504.out GE519.out GE526.out) : w.heap.size ≤ gb533)); have n14_ := As_ ((sb_ hg (zb5_ HB.out GE490.out GE497.out GE504.out GE519.out GE526.out) : w.heap.size ≤ gb533)); have n15_ := As_ ((nl_ hg BK490.out : gb490 ≠ gb533)); have n16_ := As_ ((ng_ hg BK490.out : gb533 ≠ gb490)); have n17_ := As_ ((nl_ hg BK497.out : gb497 ≠ gb533)); have n18_ := As_ ((ng_ hg BK497.out : gb533 ≠ gb497)); have n19_ := As_ ((nl_ hg BK504.out : gb504 ≠ gb533)); have n20_ := As_ ((ng_ hg BK504.out : gb533 ≠ gb504)); have n21_ := As_ ((nl_ hg BK519.out : gb519 ≠ gb533)); have n22_ := As_ ((ng_ hg BK519.out : gb533 ≠ gb519)); have n23_ := As_ ((nl_ hg BK526.out : gb526 ≠ gb533)); have n24_ := As_ ((ng_ hg BK526.out : gb533 ≠ gb526)); clear HO_491002 HO_498002 HO_505002 HO517 HO524 HO531 BK490 BK497 BK504 BK519 BK526 HB; have HO_491002 := n0_; have HO_498002 := n1_; have HO_505002 := n2_; have HO517 := n3_; have HO524 := n4_; have HO531 := n5_; have BK490 := n6_; have BK497 := n7_; have BK504 := n8_; have BK519 := n9_; have BK526 := n10_; have HB := n11_; have BK533 := n12_; have GW533 := n13_; have GE533 := n14_; have NB490_533 := n15_; have NB533_490 := n16_; have NB497_533 := n17_; have NB533_497 := n18_; have NB504_533 := n19_; have NB533_504 := n20_; have NB519_533 := n21_; have NB533_519 := n22_; have NB526_533 := n23_; have NB533_526 := n24_; clear n0_ n1_ n2_ n3_ n4_ n5_ n6_ n7_ n8_ n9_ n10_ n11_ n12_ n13_ n14_ n15_ n16_ n17_ n18_ n19_ n20_ n21_ n22_ n23_ n24_ hb hbox hg; have hnb68 := NB533_490.out; have hnc68 := NB490_533.out; have hnb69 := NB533_497.out; have hnc69 := NB497_533.out; have hnb70 := NB533_504.out; have hnc70 := NB504_533.out; have hnb71 := NB533_519.out; have hnc71 := NB519_533.out; have hnb72 := NB533_526.out; have hnc72 := NB526_533.out; obtain ⟨hcz73_0, hcz73_1, hcz73_2, hfz73_0, hfz73_1, hfz73_2⟩ := blk_all3 BK533.out; obtain ⟨Ao74, co74, eo74⟩ := Kd.R_slice HO531.out; subst eo74)))
          (try simp only [Act.put, List.setIfInBounds_toArray, List.set_cons_zero, List.set_cons_succ])
          go_cut [96] (fun v96 wc => ∃ (kq : Nat) (x96_48 : Bool), v96 = .bool x96_48 ∧ Aside0 (laws_FnLanes.j1 kq t518 t525 t532 x96_48 t513 t514 t515 t520 t521 t522 = some r) ∧ Aside0 (kq ≤ kj7) ∧ Aside0 (Kd.R k48 48 wc w.heap.size (fun k_ => some k_ ≠ ((.slice Ao17 t493.length co17) : Value).ownBlock ∧ some k_ ≠ ((.slice Ao24 t500.length co24) : Value).ownBlock ∧ some k_ ≠ ((.slice Ao56 t515.length co56) : Value).ownBlock ∧ some k_ ≠ ((.slice Ao64 t522.length co64) : Value).ownBlock ∧ some k_ ≠ ((.slice Ao74 t529.length co74) : Value).ownBlock) (.slice Ao12 t486.length co12) t486) ∧ Aside0 (Kd.R k48 48 wc w.heap.size (fun k_ => some k_ ≠ ((.slice Ao12 t486.length co12) : Value).ownBlock ∧ some k_ ≠ ((.slice Ao24 t500.length co24) : Value).ownBlock ∧ some k_ ≠ ((.slice Ao56 t515.length co56) : Value).ownBlock ∧ some k_ ≠ ((.slice Ao64 t522.length co64) : Value).ownBlock ∧ some k_ ≠ ((.slice Ao74 t529.length co74) : Value).ownBlock) (.slice Ao17 t493.length co17) t493) ∧ Aside0 (Kd.R k48 48 wc w.heap.size (fun k_ => some k_ ≠ ((.slice Ao12 t486.length co12) : Value).ownBlock ∧ some k_ ≠ ((.slice Ao17 t493.length co17) : Value).ownBlock ∧ some k_ ≠ ((.slice Ao56 t515.length co56) : Value).ownBlock ∧ some k_ ≠ ((.slice Ao64 t522.length co64) : Value).ownBlock ∧ some k_ ≠ ((.slice Ao74 t529.length co74) : Value).ownBlock) (.slice Ao24 t500.length co24) t500) ∧ Aside0 (Kd.R k48 48 wc w.heap.size (fun k_ => some k_ ≠ ((.slice Ao12 t486.length co12) : Value).ownBlock ∧ some k_ ≠ ((.slice Ao17 t493.length co17) : Value).ownBlock ∧ some k_ ≠ ((.slice Ao24 t500.length co24) : Value).ownBlock ∧ some k_ ≠ ((.slice Ao64 t522.length co64) : Value).ownBlock ∧ some k_ ≠ ((.slice Ao74 t529.length co74) : Value).ownBlock) (.slice Ao56 t515.length co56) t515) ∧ Aside0 (Kd.R k48 48 wc w.heap.size (fun k_ => some k_ ≠ ((.slice Ao12 t486.length co12) : Value).ownBlock ∧ some k_ ≠ ((.slice Ao17 t493.length co17) : Value).ownBlock ∧ some k_ ≠ ((.slice Ao24 t500.length co24) : Value).ownBlock ∧ some k_ ≠ ((.slice Ao56 t515.length co56) : Value).ownBlock ∧ some k_ ≠ ((.slice Ao74 t529.length co74) : Value).ownBlock) (.slice Ao64 t522.length co64) t522) ∧ Aside0 (Kd.R k48 48 wc w.heap.size (fun k_ => some k_ ≠ ((.slice Ao12 t486.length co12) : Value).ownBlock ∧ some k_ ≠ ((.slice Ao17 t493.length co17) : Value).ownBlock ∧ some k_ ≠ ((.slice Ao24 t500.length co24) : Value).ownBlock ∧ some k_ ≠ ((.slice Ao56 t515.length co56) : Value).ownBlock ∧ some k_ ≠ ((.slice Ao64 t522.length co64) : Value).ownBlock) (.slice Ao74 t529.length co74) t529) ∧ Aside0 (wc.heap[gb490]? = some (.cells #[.int .i64 t484, .int .i64 t485, (.slice Ao12 t486.length co12)] 24 (0, 0))) ∧ Aside0 (wc.heap[gb497]? = some (.cells #[.int .i64 t491, .int .i64 t492, (.slice Ao17 t493.length co17)] 24 (0, 0))) ∧ Aside0 (wc.heap[gb504]? = some (.cells #[.int .i64 t498, .int .i64 t499, (.slice Ao24 t500.length co24)] 24 (0, 0))) ∧ Aside0 (wc.heap[gb519]? = some (.cells #[.int .i64 t513, .int .i64 t514, (.slice Ao56 t515.length co56)] 24 (0, 0))) ∧ Aside0 (wc.heap[gb526]? = some (.cells #[.int .i64 t520, .int .i64 t521, (.slice Ao64 t522.length co64)] 24 (0, 0))) ∧ Aside0 (wc.heap[gb533]? = some (.cells #[.int .i64 t527, .int .i64 t528, (.slice Ao74 t529.length co74)] 24 (0, 0))) ∧ Aside0 (Below w.heap.size w wc))
          case first =>
            have H := HC49.out
            clear HC49
            by_cases c75 : (t525 != t532) = true
            · rw [if_pos c75] at H
              have c75b0 : (t525 != t532) = true := c75
              (try (have c75b1 : decide (t525 = t532) = false := by simpa using c75))
              (try (have c75b2 : (t525 == t532) = false := by simpa using c75))
              (try (have c75b3 : ¬ (t525 = t532) := by simpa using c75))
              clear c75
              (first | rw [c75b0] | (simp only [i64_w, i32_w]; rw [c75b0]) | skip)
              have H' := Aside0.mk H
              clear H
              go_wp2
              repeat (go_quiet (fail); try go_wp2)
              go_meet
              case rel => exact ⟨_, (true), (by first | rfl | (simp; done) | (simp [*]; done)), H', ⟨by have := HJ7.out; first | omega | exact Nat.le_refl _⟩, ⟨by (with_reducible repeat (first | apply rA_ | apply rN_ | apply rD_)); exact Kd.R_mono (Kd.R_far (p := ⟨gb533, 2, none⟩) (Kd.R_far (p := ⟨gb533, 1, none⟩) (Kd.R_far (p := ⟨gb533, 0, none⟩) (Kd.R_types HO_491002.out BK533.out (by decide)) (fun _ hk => hk.2) (.int .i64 t527)) (fun _ hk => hk.2) (.int .i64 t528)) (fun _ hk => hk.2) (.slice Ao74 t529.length co74)) (fun _ hk => ⟨hk.1.1.1.1.1, ⟨hk.1.1.1.1.2, ⟨hk.1.1.1.2, ⟨hk.1.1.2, hk.1.2⟩⟩⟩⟩)⟩, ⟨by (with_reducible repeat (first | apply rA_ | apply rN_ | apply rD_)); exact Kd.R_mono (Kd.R_far (p := ⟨gb533, 2, none⟩) (Kd.R_far (p := ⟨gb533, 1, none⟩) (Kd.R_far (p := ⟨gb533, 0, none⟩) (Kd.R_types HO_498002.out BK533.out (by decide)) (fun _ hk => hk.2) (.int .i64 t527)) (fun _ hk => hk.2) (.int .i64 t528)) (fun _ hk => hk.2) (.slice Ao74 t529.length co74)) (fun _ hk => ⟨hk.1.1.1.1.1, ⟨hk.1.1.1.1.2, ⟨hk.1.1.1.2, ⟨hk.1.1.2, hk.1.2⟩⟩⟩⟩)⟩, ⟨by (with_reducible repeat (first | apply rA_ | apply rN_ | apply rD_)); exact Kd.R_mono (Kd.R_far (p := ⟨gb533, 2, none⟩) (Kd.R_far (p := ⟨gb533, 1, none⟩) (Kd.R_far (p := ⟨gb533, 0, none⟩) (Kd.R_types HO_505002.out BK533.out (by decide)) (fun _ hk => hk.2) (.int .i64 t527)) (fun _ hk => hk.2) (.int .i64 t528)) (fun _ hk => hk.2) (.slice Ao74 t529.length co74)) (fun _ hk => ⟨hk.1.1.1.1.1, ⟨hk.1.1.1.1.2, ⟨hk.1.1.1.2, ⟨hk.1.1.2, hk.1.2⟩⟩⟩⟩)⟩, ⟨by (with_reducible repeat (first | apply rA_ | apply rN_ | apply rD_)); exact Kd.R_mono (Kd.R_far (p := ⟨gb533, 2, none⟩) (Kd.R_far (p := ⟨gb533, 1, none⟩) (Kd.R_far (p := ⟨gb533, 0, none⟩) (Kd.R_types HO517.out BK533.out (by decide)) (fun _ hk => hk.2) (.int .i64 t527)) (fun _ hk => hk.2) (.int .i64 t528)) (fun _ hk => hk.2) (.slice Ao74 t529.length co74)) (fun _ hk => ⟨hk.1.1.1.1.1.2, ⟨hk.1.1.1.1.2, ⟨hk.1.1.1.2, ⟨hk.1.1.2, hk.1.2⟩⟩⟩⟩)⟩, ⟨by (with_reducible repeat (first | apply rA_ | apply rN_ | apply rD_)); exact Kd.R_mono (Kd.R_far (p := ⟨gb533, 2, none⟩) (Kd.R_far (p := ⟨gb533, 1, none⟩) (Kd.R_far (p := ⟨gb533, 0, none⟩) (Kd.R_types HO524.out BK533.out (by decide)) (fun _ hk => hk.2) (.int .i64 t527)) (fun _ hk => hk.2) (.int .i64 t528)) (fun _ hk => hk.2) (.slice Ao74 t529.length co74)) (fun _ hk => ⟨hk.1.1.1.1.1.2, ⟨hk.1.1.1.1.2, ⟨hk.1.1.1.2, ⟨hk.1.1.2, hk.1.2⟩⟩⟩⟩)⟩, ⟨by (with_reducible repeat (first | apply rA_ | apply rN_ | apply rD_)); exact Kd.R_mono (Kd.R_far (p := ⟨gb533, 2, none⟩) (Kd.R_far (p := ⟨gb533, 1, none⟩) (Kd.R_far (p := ⟨gb533, 0, none⟩) (Kd.R_types HO531.out BK533.out (by decide)) (fun _ hk => hk.2) (.int .i64 t527)) (fun _ hk => hk.2) (.int .i64 t528)) (fun _ hk => hk.2) (.slice Ao74 t529.length co74)) (fun _ hk => ⟨hk.1.1.1.1.1.2, ⟨hk.1.1.1.1.2, ⟨hk.1.1.1.2, ⟨hk.1.1.2, hk.1.2⟩⟩⟩⟩)⟩, ⟨af_ NB490_533.out BK490.out⟩, ⟨af_ NB497_533.out BK497.out⟩, ⟨af_ NB504_533.out BK504.out⟩, ⟨af_ NB519_533.out BK519.out⟩, ⟨af_ NB526_533.out BK526.out⟩, ⟨ap_ BK533.out⟩, ⟨zb6_ HB.out GE490.out GE497.out GE504.out GE519.out GE526.out GE533.out⟩⟩
            · rw [if_neg c75] at H
              have c75b0 : (t525 != t532) = false := by simpa using c75
              (try (have c75b1 : decide (t525 = t532) = true := by simpa using c75))
              (try (have c75b2 : (t525 == t532) = true := by simpa using c75))
              clear c75
              (first | rw [c75b0] | (simp only [i64_w, i32_w]; rw [c75b0]) | skip)
              have H' := Aside0.mk H
              clear H
              go_wp2
              repeat (go_quiet (fail); try go_wp2)
              go_meet
              case rel => exact ⟨_, (!t525), (by first | rfl | (simp; done) | (simp [*]; done)), H', ⟨by have := HJ7.out; first | omega | exact Nat.le_refl _⟩, ⟨by (with_reducible repeat (first | apply rA_ | apply rN_ | apply rD_)); exact Kd.R_mono (Kd.R_far (p := ⟨gb533, 2, none⟩) (Kd.R_far (p := ⟨gb533, 1, none⟩) (Kd.R_far (p := ⟨gb533, 0, none⟩) (Kd.R_types HO_491002.out BK533.out (by decide)) (fun _ hk => hk.2) (.int .i64 t527)) (fun _ hk => hk.2) (.int .i64 t528)) (fun _ hk => hk.2) (.slice Ao74 t529.length co74)) (fun _ hk => ⟨hk.1.1.1.1.1, ⟨hk.1.1.1.1.2, ⟨hk.1.1.1.2, ⟨hk.1.1.2, hk.1.2⟩⟩⟩⟩)⟩, ⟨by (with_reducible repeat (first | apply rA_ | apply rN_ | apply rD_)); exact Kd.R_mono (Kd.R_far (p := ⟨gb533, 2, none⟩) (Kd.R_far (p := ⟨gb533, 1, none⟩) (Kd.R_far (p := ⟨gb533, 0, none⟩) (Kd.R_types HO_498002.out BK533.out (by decide)) (fun _ hk => hk.2) (.int .i64 t527)) (fun _ hk => hk.2) (.int .i64 t528)) (fun _ hk => hk.2) (.slice Ao74 t529.length co74)) (fun _ hk => ⟨hk.1.1.1.1.1, ⟨hk.1.1.1.1.2, ⟨hk.1.1.1.2, ⟨hk.1.1.2, hk.1.2⟩⟩⟩⟩)⟩, ⟨by (with_reducible repeat (first | apply rA_ | apply rN_ | apply rD_)); exact Kd.R_mono (Kd.R_far (p := ⟨gb533, 2, none⟩) (Kd.R_far (p := ⟨gb533, 1, none⟩) (Kd.R_far (p := ⟨gb533, 0, none⟩) (Kd.R_types HO_505002.out BK533.out (by decide)) (fun _ hk => hk.2) (.int .i64 t527)) (fun _ hk => hk.2) (.int .i64 t528)) (fun _ hk => hk.2) (.slice Ao74 t529.length co74)) (fun _ hk => ⟨hk.1.1.1.1.1, ⟨hk.1.1.1.1.2, ⟨hk.1.1.1.2, ⟨hk.1.1.2, hk.1.2⟩⟩⟩⟩)⟩, ⟨by (with_reducible repeat (first | apply rA_ | apply rN_ | apply rD_)); exact Kd.R_mono (Kd.R_far (p := ⟨gb533, 2, none⟩) (Kd.R_far (p := ⟨gb533, 1, none⟩) (Kd.R_far (p := ⟨gb533, 0, none⟩) (Kd.R_types HO517.out BK533.out (by decide)) (fun _ hk => hk.2) (.int .i64 t527)) (fun _ hk => hk.2) (.int .i64 t528)) (fun _ hk => hk.2) (.slice Ao74 t529.length co74)) (fun _ hk => ⟨hk.1.1.1.1.1.2, ⟨hk.1.1.1.1.2, ⟨hk.1.1.1.2, ⟨hk.1.1.2, hk.1.2⟩⟩⟩⟩)⟩, ⟨by (with_reducible repeat (first | apply rA_ | apply rN_ | apply rD_)); exact Kd.R_mono (Kd.R_far (p := ⟨gb533, 2, none⟩) (Kd.R_far (p := ⟨gb533, 1, none⟩) (Kd.R_far (p := ⟨gb533, 0, none⟩) (Kd.R_types HO524.out BK533.out (by decide)) (fun _ hk => hk.2) (.int .i64 t527)) (fun _ hk => hk.2) (.int .i64 t528)) (fun _ hk => hk.2) (.slice Ao74 t529.length co74)) (fun _ hk => ⟨hk.1.1.1.1.1.2, ⟨hk.1.1.1.1.2, ⟨hk.1.1.1.2, ⟨hk.1.1.2, hk.1.2⟩⟩⟩⟩)⟩, ⟨by (with_reducible repeat (first | apply rA_ | apply rN_ | apply rD_)); exact Kd.R_mono (Kd.R_far (p := ⟨gb533, 2, none⟩) (Kd.R_far (p := ⟨gb533, 1, none⟩) (Kd.R_far (p := ⟨gb533, 0, none⟩) (Kd.R_types HO531.out BK533.out (by decide)) (fun _ hk => hk.2) (.int .i64 t527)) (fun _ hk => hk.2) (.int .i64 t528)) (fun _ hk => hk.2) (.slice Ao74 t529.length co74)) (fun _ hk => ⟨hk.1.1.1.1.1.2, ⟨hk.1.1.1.1.2, ⟨hk.1.1.1.2, ⟨hk.1.1.2, hk.1.2⟩⟩⟩⟩)⟩, ⟨af_ NB490_533.out BK490.out⟩, ⟨af_ NB497_533.out BK497.out⟩, ⟨af_ NB504_533.out BK504.out⟩, ⟨af_ NB519_533.out BK519.out⟩, ⟨af_ NB526_533.out BK526.out⟩, ⟨ap_ BK533.out⟩, ⟨zb6_ HB.out GE490.out GE497.out GE504.out GE519.out GE526.out GE533.out⟩⟩
          case rest =>
            clear HC49
            try clear c1
            try clear c2
            try clear p2
            try clear c3
            try clear c4
            try clear c5
            try clear c6
            try clear p6
            try clear c7
            try clear c7b0
            try clear c7b1
            try clear c7b2
            try clear c12
            try clear c15
            try clear c21
            try clear c22
            try clear c25
            try clear c27
            try clear c28
            try clear c28b0
            try clear c28b1
            try clear c28b2
            try clear c29
            try clear c29b0
            try clear c29b1
            try clear c31
            try clear c32
            try clear c33
            try clear c37
            try clear c38
            try clear c39
            try clear c42
            try clear c52
            try clear c53
            try clear c54
            try clear c59
            try clear c60
            try clear c61
            try clear c62
            try clear p64
            try clear c68
            try clear c69
            try clear c70
            try clear c71
            try clear c72
            try clear c75
            try clear c75b0
            try clear c75b1
            try clear c75b2
            try clear hcz11_0
            try clear hcz11_1
            try clear hcz11_2
            try clear hcz16_0
            try clear hcz16_1
            try clear hcz16_2
            try clear hcz18_0
            try clear hcz18_1
            try clear hcz18_2
            try clear hcz23_0
            try clear hcz23_1
            try clear hcz23_2
            try clear hcz34_0
            try clear hcz34_1
            try clear hcz34_2
            try clear hcz40_0
            try clear hcz40_1
            try clear hcz40_2
            try clear hcz43_0
            try clear hcz43_1
            try clear hcz43_2
            try clear hcz44_0
            try clear hcz44_1
            try clear hcz44_2
            try clear hcz55_0
            try clear hcz55_1
            try clear hcz55_2
            try clear hcz63_0
            try clear hcz63_1
            try clear hcz63_2
            try clear hcz65_0
            try clear hcz65_1
            try clear hcz65_2
            try clear hcz73_0
            try clear hcz73_1
            try clear hcz73_2
            try clear hfz11_0
            try clear hfz11_1
            try clear hfz11_2
            try clear hfz16_0
            try clear hfz16_1
            try clear hfz16_2
            try clear hfz18_0
            try clear hfz18_1
            try clear hfz18_2
            try clear hfz23_0
            try clear hfz23_1
            try clear hfz23_2
            try clear hfz34_0
            try clear hfz34_1
            try clear hfz34_2
            try clear hfz40_0
            try clear hfz40_1
            try clear hfz40_2
            try clear hfz43_0
            try clear hfz43_1
            try clear hfz43_2
            try clear hfz44_0
            try clear hfz44_1
            try clear hfz44_2
            try clear hfz55_0
            try clear hfz55_1
            try clear hfz55_2
            try clear hfz63_0
            try clear hfz63_1
            try clear hfz63_2
            try clear hfz65_0
            try clear hfz65_1
            try clear hfz65_2
            try clear hfz73_0
            try clear hfz73_1
            try clear hfz73_2
            try clear p2
            try clear p6
            obtain ⟨kq, x96_48, rfl, HA, HJ48, HO_491002, HO_498002, HO_505002, HO_520002, HO_527002, HO_534002, BK490, BK497, BK504, BK519, BK526, BK533, HB⟩ := hcut
            cases kq with
            | zero => exact absurd HA.out (by simp [laws_FnLanes.j1])
            | succ kj48 =>
              have H := HA.out
              clear HA
              simp only [laws_FnLanes.j1] at H
              by_cases c76 : x96_48 = true
              · subst c76
                have H1 : (if (t525 == t532) = true then (some (t521 == t514)) else (none)) = some r := by rw [if_pos rfl] at H; exact H
                clear H
                have H := H1
                clear H1
                by_cases c77 : (t525 == t532) = true
                · rw [if_pos c77] at H
                  have c77b0 : (t525 == t532) = true := c77
                  (try (have c77b1 : decide (t525 = t532) = true := by simpa using c77))
                  (try (have c77b2 : (t525 == t532) = true := by simpa using c77))
                  clear c77
                  obtain rfl := Option.some.inj H
                  have hnb78 := NB526_490.out
                  have hnc78 := NB490_526.out
                  have hnb79 := NB526_497.out
                  have hnc79 := NB497_526.out
                  have hnb80 := NB526_504.out
                  have hnc80 := NB504_526.out
                  have hnb81 := NB526_519.out
                  have hnc81 := NB519_526.out
                  have hnb82 := NB526_533.out
                  have hnc82 := NB533_526.out
                  obtain ⟨hcz83_0, hcz83_1, hcz83_2, hfz83_0, hfz83_1, hfz83_2⟩ := blk_all3 BK526.out
                  have hnb84 := NB519_490.out
                  have hnc84 := NB490_519.out
                  have hnb85 := NB519_497.out
                  have hnc85 := NB497_519.out
                  have hnb86 := NB519_504.out
                  have hnc86 := NB504_519.out
                  have hnb87 := NB519_533.out
                  have hnc87 := NB533_519.out
                  obtain ⟨hcz88_0, hcz88_1, hcz88_2, hfz88_0, hfz88_1, hfz88_2⟩ := blk_all3 BK519.out
                  go_wp2
                  repeat (go_quiet (fail); try go_wp2)
                  go_ret
                  exact ⟨by first | rfl | (simp [errW_none, errW_some] <;> rfl) | (simp [*, errW_none, errW_some] <;> rfl), zb6_ HB.out GE490.out GE497.out GE504.out GE519.out GE526.out GE533.out⟩
                · rw [if_neg c77] at H
                  exact absurd H (by simp)
              · replace c76 := Bool.eq_false_iff.mpr c76
                subst c76
                have H1 : (laws_FnLanes.l0 kj48 t518 0 t513 t514 t515 t520 t521 t522) = some r := by rw [if_neg (show ¬ (false = true) by decide)] at H; exact H
                clear H
                have H := H1
                clear H1
                have H' := Aside0.mk H
                clear H
                go_wp2
                repeat (go_quiet (fail); try go_wp2)
                go_loopg [17] kj48 (fun kq v17 w' => ∃ (x17_3 : Int), v17 = .int .i64 x17_3 ∧ Aside0 (laws_FnLanes.l0 kq t518 x17_3 t513 t514 t515 t520 t521 t522 = some r) ∧ Aside0 (kq ≤ kj48) ∧ Aside0 (Kd.R k48 48 w' w.heap.size (fun k_ => some k_ ≠ ((.slice Ao17 t493.length co17) : Value).ownBlock ∧ some k_ ≠ ((.slice Ao24 t500.length co24) : Value).ownBlock ∧ some k_ ≠ ((.slice Ao56 t515.length co56) : Value).ownBlock ∧ some k_ ≠ ((.slice Ao64 t522.length co64) : Value).ownBlock ∧ some k_ ≠ ((.slice Ao74 t529.length co74) : Value).ownBlock) (.slice Ao12 t486.length co12) t486) ∧ Aside0 (Kd.R k48 48 w' w.heap.size (fun k_ => some k_ ≠ ((.slice Ao12 t486.length co12) : Value).ownBlock ∧ some k_ ≠ ((.slice Ao24 t500.length co24) : Value).ownBlock ∧ some k_ ≠ ((.slice Ao56 t515.length co56) : Value).ownBlock ∧ some k_ ≠ ((.slice Ao64 t522.length co64) : Value).ownBlock ∧ some k_ ≠ ((.slice Ao74 t529.length co74) : Value).ownBlock) (.slice Ao17 t493.length co17) t493) ∧ Aside0 (Kd.R k48 48 w' w.heap.size (fun k_ => some k_ ≠ ((.slice Ao12 t486.length co12) : Value).ownBlock ∧ some k_ ≠ ((.slice Ao17 t493.length co17) : Value).ownBlock ∧ some k_ ≠ ((.slice Ao56 t515.length co56) : Value).ownBlock ∧ some k_ ≠ ((.slice Ao64 t522.length co64) : Value).ownBlock ∧ some k_ ≠ ((.slice Ao74 t529.length co74) : Value).ownBlock) (.slice Ao24 t500.length co24) t500) ∧ Aside0 (Kd.R k48 48 w' w.heap.size (fun k_ => some k_ ≠ ((.slice Ao12 t486.length co12) : Value).ownBlock ∧ some k_ ≠ ((.slice Ao17 t493.length co17) : Value).ownBlock ∧ some k_ ≠ ((.slice Ao24 t500.length co24) : Value).ownBlock ∧ some k_ ≠ ((.slice Ao64 t522.length co64) : Value).ownBlock ∧ some k_ ≠ ((.slice Ao74 t529.length co74) : Value).ownBlock) (.slice Ao56 t515.length co56) t515) ∧ Aside0 (Kd.R k48 48 w' w.heap.size (fun k_ => some k_ ≠ ((.slice Ao12 t486.length co12) : Value).ownBlock ∧ some k_ ≠ ((.slice Ao17 t493.length co17) : Value).ownBlock ∧ some k_ ≠ ((.slice Ao24 t500.length co24) : Value).ownBlock ∧ some k_ ≠ ((.slice Ao56 t515.length co56) : Value).ownBlock ∧ some k_ ≠ ((.slice Ao74 t529.length co74) : Value).ownBlock) (.slice Ao64 t522.length co64) t522) ∧ Aside0 (Kd.R k48 48 w' w.heap.size (fun k_ => some k_ ≠ ((.slice Ao12 t486.length co12) : Value).ownBlock ∧ some k_ ≠ ((.slice Ao17 t493.length co17) : Value).ownBlock ∧ some k_ ≠ ((.slice Ao24 t500.length co24) : Value).ownBlock ∧ some k_ ≠ ((.slice Ao56 t515.length co56) : Value).ownBlock ∧ some k_ ≠ ((.slice Ao64 t522.length co64) : Value).ownBlock) (.slice Ao74 t529.length co74) t529) ∧ Aside0 (w'.heap[gb490]? = some (.cells #[.int .i64 t484, .int .i64 t485, (.slice Ao12 t486.length co12)] 24 (0, 0))) ∧ Aside0 (w'.heap[gb497]? = some (.cells #[.int .i64 t491, .int .i64 t492, (.slice Ao17 t493.length co17)] 24 (0, 0))) ∧ Aside0 (w'.heap[gb504]? = some (.cells #[.int .i64 t498, .int .i64 t499, (.slice Ao24 t500.length co24)] 24 (0, 0))) ∧ Aside0 (w'.heap[gb519]? = some (.cells #[.int .i64 t513, .int .i64 t514, (.slice Ao56 t515.length co56)] 24 (0, 0))) ∧ Aside0 (w'.heap[gb526]? = some (.cells #[.int .i64 t520, .int .i64 t521, (.slice Ao64 t522.length co64)] 24 (0, 0))) ∧ Aside0 (w'.heap[gb533]? = some (.cells #[.int .i64 t527, .int .i64 t528, (.slice Ao74 t529.length co74)] 24 (0, 0))) ∧ Aside0 (Below w.heap.size w w'))
                case atStart => exact ⟨(0), (by first | rfl | (simp; done) | (simp [*]; done)), H', ⟨Nat.le_refl _⟩, ⟨rk_ HO_491002.out⟩, ⟨rk_ HO_498002.out⟩, ⟨rk_ HO_505002.out⟩, ⟨rk_ HO_520002.out⟩, ⟨rk_ HO_527002.out⟩, ⟨rk_ HO_534002.out⟩, ⟨ak_ BK490.out⟩, ⟨ak_ BK497.out⟩, ⟨ak_ BK504.out⟩, ⟨ak_ BK519.out⟩, ⟨ak_ BK526.out⟩, ⟨ak_ BK533.out⟩, ⟨zb6_ HB.out GE490.out GE497.out GE504.out GE519.out GE526.out GE533.out⟩⟩
                case round =>
                  clear H'
                  try clear c1
                  try clear c2
                  try clear p2
                  try clear c3
                  try clear c4
                  try clear c5
                  try clear c6
                  try clear p6
                  try clear c7
                  try clear c7b0
                  try clear c7b1
                  try clear c7b2
                  try clear c8
                  try clear c12
                  try clear c15
                  try clear c21
                  try clear c22
                  try clear c25
                  try clear c27
                  try clear c28
                  try clear c28b0
                  try clear c28b1
                  try clear c28b2
                  try clear c29
                  try clear c29b0
                  try clear c29b1
                  try clear c31
                  try clear c32
                  try clear c33
                  try clear c37
                  try clear c38
                  try clear c39
                  try clear c42
                  try clear c52
                  try clear c53
                  try clear c54
                  try clear c59
                  try clear c60
                  try clear c61
                  try clear c62
                  try clear p64
                  try clear c68
                  try clear c69
                  try clear c70
                  try clear c71
                  try clear c72
                  try clear c75
                  try clear c75b0
                  try clear c75b1
                  try clear c75b2
                  try clear c76
                  try clear c77
                  try clear c77b0
                  try clear c77b1
                  try clear c77b2
                  try clear c78
                  try clear c79
                  try clear c80
                  try clear c81
                  try clear c82
                  try clear c84
                  try clear c85
                  try clear c86
                  try clear c87
                  try clear hcz11_0
                  try clear hcz11_1
                  try clear hcz11_2
                  try clear hcz16_0
                  try clear hcz16_1
                  try clear hcz16_2
                  try clear hcz18_0
                  try clear hcz18_1
                  try clear hcz18_2
                  try clear hcz23_0
                  try clear hcz23_1
                  try clear hcz23_2
                  try clear hcz34_0
                  try clear hcz34_1
                  try clear hcz34_2
                  try clear hcz40_0
                  try clear hcz40_1
                  try clear hcz40_2
                  try clear hcz43_0
                  try clear hcz43_1
                  try clear hcz43_2
                  try clear hcz44_0
                  try clear hcz44_1
                  try clear hcz44_2
                  try clear hcz55_0
                  try clear hcz55_1
                  try clear hcz55_2
                  try clear hcz63_0
                  try clear hcz63_1
                  try clear hcz63_2
                  try clear hcz65_0
                  try clear hcz65_1
                  try clear hcz65_2
                  try clear hcz73_0
                  try clear hcz73_1
                  try clear hcz73_2
                  try clear hcz83_0
                  try clear hcz83_1
                  try clear hcz83_2
                  try clear hcz88_0
                  try clear hcz88_1
                  try clear hcz88_2
                  try clear hfz11_0
                  try clear hfz11_1
                  try clear hfz11_2
                  try clear hfz16_0
                  try clear hfz16_1
                  try clear hfz16_2
                  try clear hfz18_0
                  try clear hfz18_1
                  try clear hfz18_2
                  try clear hfz23_0
                  try clear hfz23_1
                  try clear hfz23_2
                  try clear hfz34_0
                  try clear hfz34_1
                  try clear hfz34_2
                  try clear hfz40_0
                  try clear hfz40_1
                  try clear hfz40_2
                  try clear hfz43_0
                  try clear hfz43_1
                  try clear hfz43_2
                  try clear hfz44_0
                  try clear hfz44_1
                  try clear hfz44_2
                  try clear hfz55_0
                  try clear hfz55_1
                  try clear hfz55_2
                  try clear hfz63_0
                  try clear hfz63_1
                  try clear hfz63_2
                  try clear hfz65_0
                  try clear hfz65_1
                  try clear hfz65_2
                  try clear hfz73_0
                  try clear hfz73_1
                  try clear hfz73_2
                  try clear hfz83_0
                  try clear hfz83_1
                  try clear hfz83_2
                  try clear hfz88_0
                  try clear hfz88_1
                  try clear hfz88_2
                  try clear p2
                  try clear p6
                  try clear p64
                  obtain ⟨x17_3, rfl, HA, HK3, HO_491002, HO_498002, HO_505002, HO_520002, HO_527002, HO_534002, BK490, BK497, BK504, BK519, BK526, BK533, HB⟩ := hrel
                  cases gk with
                  | zero => exact absurd HA.out (by simp [laws_FnLanes.l0])
                  | succ k3 =>
                    have H := HA.out
                    clear HA
                    simp only [laws_FnLanes.l0] at H
                    by_cases c89 : x17_3 < (t515.length : Int)
                    · rw [if_pos c89] at H
                      have c89b0 : decide (x17_3 < (t515.length : Int)) = true := decide_eq_true c89
                      clear c89
                      by_cases c90 : 0 ≤ x17_3
                      · rw [if_pos c90] at H
                        have c90b0 : decide (0 ≤ x17_3) = true := decide_eq_true c90
                        clear c90
                        by_cases c91 : x17_3 < (t522.length : Int)
                        · rw [if_pos c91] at H
                          have c91b0 : decide (x17_3 < (t522.length : Int)) = true := decide_eq_true c91
                          clear c91
                          by_cases c92 : (wrap64 (((rd_T48 t522 x17_3).f1) - ((rd_T48 t515 x17_3).f1))) = (wrap64 (t518 - t514))
                          · rw [if_pos c92] at H
                            have c92b0 : ((wrap64 (((rd_T48 t522 x17_3).f1) - ((rd_T48 t515 x17_3).f1))) == (wrap64 (t518 - t514))) = true := beq_iff_eq.mpr c92
                            have c92b1 : ((wrap64 (((rd_T48 t522 x17_3).f1) - ((rd_T48 t515 x17_3).f1))) != (wrap64 (t518 - t514))) = false := bne_eq_false_iff_eq.mpr c92
                            clear c92
                            by_cases c93 : ((rd_T48 t522 x17_3).f0) = ((rd_T48 t515 x17_3).f0)
                            · rw [if_pos c93] at H
                              have c93b0 : (((rd_T48 t522 x17_3).f0) == ((rd_T48 t515 x17_3).f0)) = true := beq_iff_eq.mpr c93
                              have c93b1 : (((rd_T48 t522 x17_3).f0) != ((rd_T48 t515 x17_3).f0)) = false := bne_eq_false_iff_eq.mpr c93
                              clear c93
                              have H' := Aside0.mk H
                              clear H
                              have hnb94 := NB519_490.out
                              have hnc94 := NB490_519.out
                              have hnb95 := NB519_497.out
                              have hnc95 := NB497_519.out
                              have hnb96 := NB519_504.out
                              have hnc96 := NB504_519.out
                              have hnb97 := NB519_526.out
                              have hnc97 := NB526_519.out
                              have hnb98 := NB519_533.out
                              have hnc98 := NB533_519.out
                              obtain ⟨hcz99_0, hcz99_1, hcz99_2, hfz99_0, hfz99_1, hfz99_2⟩ := blk_all3 BK519.out
                              have hnb100 := NB526_490.out
                              have hnc100 := NB490_526.out
                              have hnb101 := NB526_497.out
                              have hnc101 := NB497_526.out
                              have hnb102 := NB526_504.out
                              have hnc102 := NB504_526.out
                              have hnb103 := NB526_533.out
                              have hnc103 := NB533_526.out
                              obtain ⟨hcz104_0, hcz104_1, hcz104_2, hfz104_0, hfz104_1, hfz104_2⟩ := blk_all3 BK526.out
                              have p534 : 0 ≤ (x17_3 : Int) := of_decide_eq_true sm_
                              have q534 : x17_3 < (t522.length : Int) := of_decide_eq_true sm_
                              obtain ⟨ad534, e534, hx534_0, hx534_1⟩ := at_T48 (Kd.R_reads' HO_527002.out).2.2 x17_3 p534 q534
                              cases e534
                              replace p534 := eq_true p534
                              replace q534 := eq_true q534
                              have p535 : 0 ≤ (x17_3 : Int) := of_decide_eq_true sm_
                              have q535 : x17_3 < (t515.length : Int) := of_decide_eq_true sm_
                              obtain ⟨ad535, e535, hx535_0, hx535_1⟩ := at_T48 (Kd.R_reads' HO_520002.out).2.2 x17_3 p535 q535
                              cases e535
                              replace p535 := eq_true p535
                              replace q535 := eq_true q535
                              have p536 : 0 ≤ (x17_3 : Int) := of_decide_eq_true sm_
                              have q536 : x17_3 < (t522.length : Int) := of_decide_eq_true sm_
                              obtain ⟨ad536, e536, hx536_0, hx536_1⟩ := at_T48 (Kd.R_reads' HO_527002.out).2.2 x17_3 p536 q536
                              obtain rfl : ad534 = ad536 := (by injection e536)
                              replace p536 := eq_true p536
                              replace q536 := eq_true q536
                              have p537 : 0 ≤ (x17_3 : Int) := of_decide_eq_true sm_
                              have q537 : x17_3 < (t515.length : Int) := of_decide_eq_true sm_
                              obtain ⟨ad537, e537, hx537_0, hx537_1⟩ := at_T48 (Kd.R_reads' HO_520002.out).2.2 x17_3 p537 q537
                              obtain rfl : ad535 = ad537 := (by injection e537)
                              replace p537 := eq_true p537
                              replace q537 := eq_true q537
                              go_wp2
                              repeat (go_quiet (fail); try go_wp2)
                              go_roundg k3
                              case measure => have := HJ7.out; have := HJ48.out; have := HK3.out; omega
                              case rel => exact ⟨(wrap64 (x17_3 + 1)), (by first | rfl | (simp; done) | (simp [*]; done)), H', ⟨by have := HJ7.out; have := HJ48.out; have := HK3.out; omega⟩, ⟨rk_ HO_491002.out⟩, ⟨rk_ HO_498002.out⟩, ⟨rk_ HO_505002.out⟩, ⟨rk_ HO_520002.out⟩, ⟨rk_ HO_527002.out⟩, ⟨rk_ HO_534002.out⟩, ⟨ak_ BK490.out⟩, ⟨ak_ BK497.out⟩, ⟨ak_ BK504.out⟩, ⟨ak_ BK519.out⟩, ⟨ak_ BK526.out⟩, ⟨ak_ BK533.out⟩, ⟨zb6_ HB.out GE490.out GE497.out GE504.out GE519.out GE526.out GE533.out⟩⟩
                            · rw [if_neg c93] at H
                              exact absurd H (by simp)
                          · rw [if_neg c92] at H
                            exact absurd H (by simp)
                        · rw [if_neg c91] at H
                          exact absurd H (by simp)
                      · rw [if_neg c90] at H
                        exact absurd H (by simp)
                    · rw [if_neg c89] at H
                      have c89b0 : decide (x17_3 < (t515.length : Int)) = false := decide_eq_false c89
                      clear c89
                      replace H := Option.bind_eq_some_iff.mp H
                      obtain ⟨t538, A1050, H⟩ := H
                      replace H : (if t538 = true then (if t521 = t518 then ((impl_FlowNew.f t518).bind fun bt539 => (some (bt539.2.1 == t518))) else (none)) else (none)) = some r := H
                      have A105 := Aside0.mk A1050
                      clear A1050
                      by_cases c106 : t538 = true
                      · subst c106
                        have H1 : (if t521 = t518 then ((impl_FlowNew.f t518).bind fun bt539 => (some (bt539.2.1 == t518))) else (none)) = some r := by rw [if_pos rfl] at H; exact H
                        clear H
                        have H := H1
                        clear H1
                        by_cases c107 : t521 = t518
                        · rw [if_pos c107] at H
                          have c107b0 : (t521 == t518) = true := beq_iff_eq.mpr c107
                          have c107b1 : (t521 != t518) = false := bne_eq_false_iff_eq.mpr c107
                          clear c107
                          replace H := Option.bind_eq_some_iff.mp H
                          obtain ⟨⟨t539, t540, t541⟩, A1080, H⟩ := H
                          replace H : (some (t540 == t518)) = some r := H
                          have A108 := Aside0.mk A1080
                          clear A1080
                          obtain rfl := Option.some.inj H
                          have hnb109 := NB519_490.out
                          have hnc109 := NB490_519.out
                          have hnb110 := NB519_497.out
                          have hnc110 := NB497_519.out
                          have hnb111 := NB519_504.out
                          have hnc111 := NB504_519.out
                          have hnb112 := NB519_526.out
                          have hnc112 := NB526_519.out
                          have hnb113 := NB519_533.out
                          have hnc113 := NB533_519.out
                          obtain ⟨hcz114_0, hcz114_1, hcz114_2, hfz114_0, hfz114_1, hfz114_2⟩ := blk_all3 BK519.out
                          have hnb115 := NB526_490.out
                          have hnc115 := NB490_526.out
                          have hnb116 := NB526_497.out
                          have hnc116 := NB497_526.out
                          have hnb117 := NB526_504.out
                          have hnc117 := NB504_526.out
                          have hnb118 := NB526_533.out
                          have hnc118 := NB533_526.out
                          obtain ⟨hcz119_0, hcz119_1, hcz119_2, hfz119_0, hfz119_1, hfz119_2⟩ := blk_all3 BK526.out
                          go_wp2_with (first | (go_at_call 21; (with_reducible refine (impl_FlowOk.calls k3 t520 t521 _ _ t522 true _ ?side1 ?side2 A105.out).mono ?_); (case side1 => repeat (first | exact (Kd.R_reads' HO_527002.out).2.2 | (with_reducible first | apply cA_ | apply cN_ | apply cD_))); (case side2 => exact (Kd.R_reads' HO_527002.out).2.1); rintro e w120 ⟨rfl, hb⟩; replace HO_491002 := As_ (Kd.R_below (rk_ HO_491002.out) hb); replace HO_498002 := As_ (Kd.R_below (rk_ HO_498002.out) hb); replace HO_505002 := As_ (Kd.R_below (rk_ HO_505002.out) hb); replace HO_520002 := As_ (Kd.R_below (rk_ HO_520002.out) hb); replace HO_527002 := As_ (Kd.R_below (rk_ HO_527002.out) hb); replace HO_534002 := As_ (Kd.R_below (rk_ HO_534002.out) hb); replace BK490 := As_ (blk_below (g := gb490) (o := .cells #[.int .i64 t484, .int .i64 t485, .slice Ao12 t486.length co12] 24 (0, 0)) (ak_ BK490.out) hb); replace BK497 := As_ (blk_below (g := gb497) (o := .cells #[.int .i64 t491, .int .i64 t492, .slice Ao17 t493.length co17] 24 (0, 0)) (ak_ BK497.out) hb); replace BK504 := As_ (blk_below (g := gb504) (o := .cells #[.int .i64 t498, .int .i64 t499, .slice Ao24 t500.length co24] 24 (0, 0)) (ak_ BK504.out) hb); replace BK519 := As_ (blk_below (g := gb519) (o := .cells #[.int .i64 t513, .int .i64 t514, .slice Ao56 t515.length co56] 24 (0, 0)) (ak_ BK519.out) hb); replace BK526 := As_ (blk_below (g := gb526) (o := .cells #[.int .i64 t520, .int .i64 t521, .slice Ao64 t522.length co64] 24 (0, 0)) (ak_ BK526.out) hb); replace BK533 := As_ (blk_below (g := gb533) (o := .cells #[.int .i64 t527, .int .i64 t528, .slice Ao74 t529.length co74] 24 (0, 0)) (ak_ BK533.out) hb); replace HB := As_ (below_step (zb6_ HB.out GE490.out GE497.out GE504.out GE519.out GE526.out GE533.out) hb); (try clear hb); (try clear hb2); (try clear hk); (try clear hi); obtain ⟨hcz121_0, hcz121_1, hcz121_2, hfz121_0, hfz121_1, hfz121_2⟩ := blk_all3 BK526.out) | (go_at_call 14; (with_reducible refine (impl_FlowNew.calls t518 t539 t540 t541 _ A108.out).mono ?_); rintro e w122 ⟨v542, rfl, ho0, hb⟩; have n0_ := As_ (Kd.R_elder' (rk_ HO_491002.out) (Kd.R_base ho0) hb); have n1_ := As_ (Kd.R_elder' (rk_ HO_498002.out) (Kd.R_base ho0) hb); have n2_ := As_ (Kd.R_elder' (rk_ HO_505002.out) (Kd.R_base ho0) hb); have n3_ := As_ (Kd.R_elder' (rk_ HO_520002.out) (Kd.R_base ho0) hb); have n4_ := As_ (Kd.R_elder' (rk_ HO_527002.out) (Kd.R_base ho0) hb); have n5_ := As_ (Kd.R_elder' (rk_ HO_534002.out) (Kd.R_base ho0) hb); have HO543 := As_ (Kd.R_lower (Kd.R_new' (Kd.R_new' (Kd.R_new' (Kd.R_new' (Kd.R_new' (Kd.R_new' ho0 (Kd.R_lt (rk_ HO_491002.out))) (Kd.R_lt (rk_ HO_498002.out))) (Kd.R_lt (rk_ HO_505002.out))) (Kd.R_lt (rk_ HO_520002.out))) (Kd.R_lt (rk_ HO_527002.out))) (Kd.R_lt (rk_ HO_534002.out))) (below_size (zb6_ HB.out GE490.out GE497.out GE504.out GE519.out GE526.out GE533.out))); replace BK490 := As_ (blk_below (g := gb490) (o := .cells #[.int .i64 t484, .int .i64 t485, .slice Ao12 t486.length co12] 24 (0, 0)) (ak_ BK490.out) hb); replace BK497 := As_ (blk_below (g := gb497) (o := .cells #[.int .i64 t491, .int .i64 t492, .slice Ao17 t493.length co17] 24 (0, 0)) (ak_ BK497.out) hb); replace BK504 := As_ (blk_below (g := gb504) (o := .cells #[.int .i64 t498, .int .i64 t499, .slice Ao24 t500.length co24] 24 (0, 0)) (ak_ BK504.out) hb); replace BK519 := As_ (blk_below (g := gb519) (o := .cells #[.int .i64 t513, .int .i64 t514, .slice Ao56 t515.length co56] 24 (0, 0)) (ak_ BK519.out) hb); replace BK526 := As_ (blk_below (g := gb526) (o := .cells #[.int .i64 t520, .int .i64 t521, .slice Ao64 t522.length co64] 24 (0, 0)) (ak_ BK526.out) hb); replace BK533 := As_ (blk_below (g := gb533) (o := .cells #[.int .i64 t527, .int .i64 t528, .slice Ao74 t529.length co74] 24 (0, 0)) (ak_ BK533.out) hb); replace HB := As_ (below_step (zb6_ HB.out GE490.out GE497.out GE504.out GE519.out GE526.out GE533.out) hb); clear HO_491002 HO_498002 HO_505002 HO_520002 HO_527002 HO_534002; have HO_491002 := n0_; have HO_498002 := n1_; have HO_505002 := n2_; have HO_520002 := n3_; have HO_527002 := n4_; have HO_534002 := n5_; clear n0_ n1_ n2_ n3_ n4_ n5_; (try clear hb); (try clear hb2); (try clear hk); (try clear hi); (try clear ho0); obtain ⟨Ao123, co123, eo123⟩ := Kd.R_slice HO543.out; subst eo123))
                          repeat (go_quiet (first | (go_at_call 21; (with_reducible refine (impl_FlowOk.calls k3 t520 t521 _ _ t522 true _ ?side1 ?side2 A105.out).mono ?_); (case side1 => repeat (first | exact (Kd.R_reads' HO_527002.out).2.2 | (with_reducible first | apply cA_ | apply cN_ | apply cD_))); (case side2 => exact (Kd.R_reads' HO_527002.out).2.1); rintro e w120 ⟨rfl, hb⟩; replace HO_491002 := As_ (Kd.R_below (rk_ HO_491002.out) hb); replace HO_498002 := As_ (Kd.R_below (rk_ HO_498002.out) hb); replace HO_505002 := As_ (Kd.R_below (rk_ HO_505002.out) hb); replace HO_520002 := As_ (Kd.R_below (rk_ HO_520002.out) hb); replace HO_527002 := As_ (Kd.R_below (rk_ HO_527002.out) hb); replace HO_534002 := As_ (Kd.R_below (rk_ HO_534002.out) hb); replace BK490 := As_ (blk_below (g := gb490) (o := .cells #[.int .i64 t484, .int .i64 t485, .slice Ao12 t486.length co12] 24 (0, 0)) (ak_ BK490.out) hb); replace BK497 := As_ (blk_below (g := gb497) (o := .cells #[.int .i64 t491, .int .i64 t492, .slice Ao17 t493.length co17] 24 (0, 0)) (ak_ BK497.out) hb); replace BK504 := As_ (blk_below (g := gb504) (o := .cells #[.int .i64 t498, .int .i64 t499, .slice Ao24 t500.length co24] 24 (0, 0)) (ak_ BK504.out) hb); replace BK519 := As_ (blk_below (g := gb519) (o := .cells #[.int .i64 t513, .int .i64 t514, .slice Ao56 t515.length co56] 24 (0, 0)) (ak_ BK519.out) hb); replace BK526 := As_ (blk_below (g := gb526) (o := .cells #[.int .i64 t520, .int .i64 t521, .slice Ao64 t522.length co64] 24 (0, 0)) (ak_ BK526.out) hb); replace BK533 := As_ (blk_below (g := gb533) (o := .cells #[.int .i64 t527, .int .i64 t528, .slice Ao74 t529.length co74] 24 (0, 0)) (ak_ BK533.out) hb); replace HB := As_ (below_step (zb6_ HB.out GE490.out GE497.out GE504.out GE519.out GE526.out GE533.out) hb); (try clear hb); (try clear hb2); (try clear hk); (try clear hi); obtain ⟨hcz121_0, hcz121_1, hcz121_2, hfz121_0, hfz121_1, hfz121_2⟩ := blk_all3 BK526.out) | (go_at_call 14; (with_reducible refine (impl_FlowNew.calls t518 t539 t540 t541 _ A108.out).mono ?_); rintro e w122 ⟨v542, rfl, ho0, hb⟩; have n0_ := As_ (Kd.R_elder' (rk_ HO_491002.out) (Kd.R_base ho0) hb); have n1_ := As_ (Kd.R_elder' (rk_ HO_498002.out) (Kd.R_base ho0) hb); have n2_ := As_ (Kd.R_elder' (rk_ HO_505002.out) (Kd.R_base ho0) hb); have n3_ := As_ (Kd.R_elder' (rk_ HO_520002.out) (Kd.R_base ho0) hb); have n4_ := As_ (Kd.R_elder' (rk_ HO_527002.out) (Kd.R_base ho0) hb); have n5_ := As_ (Kd.R_elder' (rk_ HO_534002.out) (Kd.R_base ho0) hb); have HO543 := As_ (Kd.R_lower (Kd.R_new' (Kd.R_new' (Kd.R_new' (Kd.R_new' (Kd.R_new' (Kd.R_new' ho0 (Kd.R_lt (rk_ HO_491002.out))) (Kd.R_lt (rk_ HO_498002.out))) (Kd.R_lt (rk_ HO_505002.out))) (Kd.R_lt (rk_ HO_520002.out))) (Kd.R_lt (rk_ HO_527002.out))) (Kd.R_lt (rk_ HO_534002.out))) (below_size (zb6_ HB.out GE490.out GE497.out GE504.out GE519.out GE526.out GE533.out))); replace BK490 := As_ (blk_below (g := gb490) (o := .cells #[.int .i64 t484, .int .i64 t485, .slice Ao12 t486.length co12] 24 (0, 0)) (ak_ BK490.out) hb); replace BK497 := As_ (blk_below (g := gb497) (o := .cells #[.int .i64 t491, .int .i64 t492, .slice Ao17 t493.length co17] 24 (0, 0)) (ak_ BK497.out) hb); replace BK504 := As_ (blk_below (g := gb504) (o := .cells #[.int .i64 t498, .int .i64 t499, .slice Ao24 t500.length co24] 24 (0, 0)) (ak_ BK504.out) hb); replace BK519 := As_ (blk_below (g := gb519) (o := .cells #[.int .i64 t513, .int .i64 t514, .slice Ao56 t515.length co56] 24 (0, 0)) (ak_ BK519.out) hb); replace BK526 := As_ (blk_below (g := gb526) (o := .cells #[.int .i64 t520, .int .i64 t521, .slice Ao64 t522.length co64] 24 (0, 0)) (ak_ BK526.out) hb); replace BK533 := As_ (blk_below (g := gb533) (o := .cells #[.int .i64 t527, .int .i64 t528, .slice Ao74 t529.length co74] 24 (0, 0)) (ak_ BK533.out) hb); replace HB := As_ (below_step (zb6_ HB.out GE490.out GE497.out GE504.out GE519.out GE526.out GE533.out) hb); clear HO_491002 HO_498002 HO_505002 HO_520002 HO_527002 HO_534002; have HO_491002 := n0_; have HO_498002 := n1_; have HO_505002 := n2_; have HO_520002 := n3_; have HO_527002 := n4_; have HO_534002 := n5_; clear n0_ n1_ n2_ n3_ n4_ n5_; (try clear hb); (try clear hb2); (try clear hk); (try clear hi); (try clear ho0); obtain ⟨Ao123, co123, eo123⟩ := Kd.R_slice HO543.out; subst eo123)); try go_wp2_with (first | (go_at_call 21; (with_reducible refine (impl_FlowOk.calls k3 t520 t521 _ _ t522 true _ ?side1 ?side2 A105.out).mono ?_); (case side1 => repeat (first | exact (Kd.R_reads' HO_527002.out).2.2 | (with_reducible first | apply cA_ | apply cN_ | apply cD_))); (case side2 => exact (Kd.R_reads' HO_527002.out).2.1); rintro e w120 ⟨rfl, hb⟩; replace HO_491002 := As_ (Kd.R_below (rk_ HO_491002.out) hb); replace HO_498002 := As_ (Kd.R_below (rk_ HO_498002.out) hb); replace HO_505002 := As_ (Kd.R_below (rk_ HO_505002.out) hb); replace HO_520002 := As_ (Kd.R_below (rk_ HO_520002.out) hb); replace HO_527002 := As_ (Kd.R_below (rk_ HO_527002.out) hb); replace HO_534002 := As_ (Kd.R_below (rk_ HO_534002.out) hb); replace BK490 := As_ (blk_below (g := gb490) (o := .cells #[.int .i64 t484, .int .i64 t485, .slice Ao12 t486.length co12] 24 (0, 0)) (ak_ BK490.out) hb); replace BK497 := As_ (blk_below (g := gb497) (o := .cells #[.int .i64 t491, .int .i64 t492, .slice Ao17 t493.length co17] 24 (0, 0)) (ak_ BK497.out) hb); replace BK504 := As_ (blk_below (g := gb504) (o := .cells #[.int .i64 t498, .int .i64 t499, .slice Ao24 t500.length co24] 24 (0, 0)) (ak_ BK504.out) hb); replace BK519 := As_ (blk_below (g := gb519) (o := .cells #[.int .i64 t513, .int .i64 t514, .slice Ao56 t515.length co56] 24 (0, 0)) (ak_ BK519.out) hb); replace BK526 := As_ (blk_below (g := gb526) (o := .cells #[.int .i64 t520, .int .i64 t521, .slice Ao64 t522.length co64] 24 (0, 0)) (ak_ BK526.out) hb); replace BK533 := As_ (blk_below (g := gb533) (o := .cells #[.int .i64 t527, .int .i64 t528, .slice Ao74 t529.length co74] 24 (0, 0)) (ak_ BK533.out) hb); replace HB := As_ (below_step (zb6_ HB.out GE490.out GE497.out GE504.out GE519.out GE526.out GE533.out) hb); (try clear hb); (try clear hb2); (try clear hk); (try clear hi); obtain ⟨hcz121_0, hcz121_1, hcz121_2, hfz121_0, hfz121_1, hfz121_2⟩ := blk_all3 BK526.out) | (go_at_call 14; (with_reducible refine (impl_FlowNew.calls t518 t539 t540 t541 _ A108.out).mono ?_); rintro e w122 ⟨v542, rfl, ho0, hb⟩; have n0_ := As_ (Kd.R_elder' (rk_ HO_491002.out) (Kd.R_base ho0) hb); have n1_ := As_ (Kd.R_elder' (rk_ HO_498002.out) (Kd.R_base ho0) hb); have n2_ := As_ (Kd.R_elder' (rk_ HO_505002.out) (Kd.R_base ho0) hb); have n3_ := As_ (Kd.R_elder' (rk_ HO_520002.out) (Kd.R_base ho0) hb); have n4_ := As_ (Kd.R_elder' (rk_ HO_527002.out) (Kd.R_base ho0) hb); have n5_ := As_ (Kd.R_elder' (rk_ HO_534002.out) (Kd.R_base ho0) hb); have HO543 := As_ (Kd.R_lower (Kd.R_new' (Kd.R_new' (Kd.R_new' (Kd.R_new' (Kd.R_new' (Kd.R_new' ho0 (Kd.R_lt (rk_ HO_491002.out))) (Kd.R_lt (rk_ HO_498002.out))) (Kd.R_lt (rk_ HO_505002.out))) (Kd.R_lt (rk_ HO_520002.out))) (Kd.R_lt (rk_ HO_527002.out))) (Kd.R_lt (rk_ HO_534002.out))) (below_size (zb6_ HB.out GE490.out GE497.out GE504.out GE519.out GE526.out GE533.out))); replace BK490 := As_ (blk_below (g := gb490) (o := .cells #[.int .i64 t484, .int .i64 t485, .slice Ao12 t486.length co12] 24 (0, 0)) (ak_ BK490.out) hb); replace BK497 := As_ (blk_below (g := gb497) (o := .cells #[.int .i64 t491, .int .i64 t492, .slice Ao17 t493.length co17] 24 (0, 0)) (ak_ BK497.out) hb); replace BK504 := As_ (blk_below (g := gb504) (o := .cells #[.int .i64 t498, .int .i64 t499, .slice Ao24 t500.length co24] 24 (0, 0)) (ak_ BK504.out) hb); replace BK519 := As_ (blk_below (g := gb519) (o := .cells #[.int .i64 t513, .int .i64 t514, .slice Ao56 t515.length co56] 24 (0, 0)) (ak_ BK519.out) hb); replace BK526 := As_ (blk_below (g := gb526) (o := .cells #[.int .i64 t520, .int .i64 t521, .slice Ao64 t522.length co64] 24 (0, 0)) (ak_ BK526.out) hb); replace BK533 := As_ (blk_below (g := gb533) (o := .cells #[.int .i64 t527, .int .i64 t528, .slice Ao74 t529.length co74] 24 (0, 0)) (ak_ BK533.out) hb); replace HB := As_ (below_step (zb6_ HB.out GE490.out GE497.out GE504.out GE519.out GE526.out GE533.out) hb); clear HO_491002 HO_498002 HO_505002 HO_520002 HO_527002 HO_534002; have HO_491002 := n0_; have HO_498002 := n1_; have HO_505002 := n2_; have HO_520002 := n3_; have HO_527002 := n4_; have HO_534002 := n5_; clear n0_ n1_ n2_ n3_ n4_ n5_; (try clear hb); (try clear hb2); (try clear hk); (try clear hi); (try clear ho0); obtain ⟨Ao123, co123, eo123⟩ := Kd.R_slice HO543.out; subst eo123)))
                          go_ret
                          exact ⟨by first | rfl | (simp [errW_none, errW_some] <;> rfl) | (simp [*, errW_none, errW_some] <;> rfl), zb6_ HB.out GE490.out GE497.out GE504.out GE519.out GE526.out GE533.out⟩
                        · rw [if_neg c107] at H
                          exact absurd H (by simp)
                      · replace c106 := Bool.eq_false_iff.mpr c106
                        subst c106
                        have H1 : (none) = some r := by rw [if_neg (show ¬ (false = true) by decide)] at H; exact H
                        clear H
                        have H := H1
                        clear H1
                        exact absurd H (by simp)

end Go.Proofs.Ytejnagdmfooemaa.QFnLanes
