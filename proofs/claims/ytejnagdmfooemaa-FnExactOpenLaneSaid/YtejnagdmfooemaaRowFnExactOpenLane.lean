/- The law laws.FnExactOpenLane: for every input the call returns true, and each argument reads afterwards as it read before. No condition. -/
import Derived.Test.YtejnagdmfooemaaRows
import Derived.Test.YtejnagdmfooemaaSFnExactOpenLane
import Derived.Test.YtejnagdmfooemaaPureFnExactOpenLane
import Derived.WalkKit
import Derived.ProofKit
import Derived.OpenShut
import Derived.ShutString
import Derived.ChangeOld
import Derived.Below
import Derived.Carry
namespace Go.Proofs.Ytejnagdmfooemaa.fnExactOpenLane
open Go.ChangeShapes Go.WideShapes Go.ChangeAt Go.RowKit Go.Proofs.Ytejnagdmfooemaa.QFnExactOpenLane Go.Proofs.YtejnagdmfooemaaW.PrintWords Go.Proofs.YtejnagdmfooemaaW.PrintOpen
open Go.ChangeMaps (open_string shut_string)
set_option linter.unusedVariables false
theorem own : ownKnob Try.prog.godebug = none := by kernel_rfl
theorem laidOut : laidOutB Try.prog = true := by kernel_rfl
theorem cells_of_68 : Try.prog.cellsOf 68 = 2 := by kernel_rfl
theorem cells_of_3 : Try.prog.cellsOf 3 = 1 := by kernel_rfl
theorem parts68 {H : Type} {enc : TypeId × Value → H} {w : World} {fuel : Nat} {cs : List Value} {x : DataW H × List MemPlace} (h : DataW.trod enc Try.prog w 0 (fun _ => true) true fuel 68 cs = some x) :
    ∃ (a0 : Int) (a1 : Int), cs = [.int .i64 a0, .int .i64 a1] ∧ bdI64 a0 ∧ bdI64 a1 := by
  obtain ⟨xs, n, _, _, hlen, hxl, hf⟩ := DataW.trod_struct Try.underlying68 h
  rw [cells_of_68] at hlen
  have hxl2 : xs.length = 2 := hxl
  obtain ⟨u0, u1, rfl⟩ : ∃ u0 u1, cs = [u0, u1] := by
    match cs, hlen with
    | [u0, u1], _ => exact ⟨_, _, rfl⟩
  have q0 : DataW.trod enc Try.prog w 0 (fun _ => true) true n 3 [u0] = some (xs[0]'(by omega)) := by
    have z : DataW.trod enc Try.prog w 0 (fun _ => true) true n 3 ((([u0, u1] : List Value).drop 0).take (Try.prog.cellsOf 3)) = xs[0]? := hf 0 _ rfl
    rw [List.getElem?_eq_getElem (show 0 < xs.length by omega), cells_of_3] at z
    exact z
  have q1 : DataW.trod enc Try.prog w 0 (fun _ => true) true n 3 [u1] = some (xs[1]'(by omega)) := by
    have z : DataW.trod enc Try.prog w 0 (fun _ => true) true n 3 ((([u0, u1] : List Value).drop 1).take (Try.prog.cellsOf 3)) = xs[1]? := hf 1 _ rfl
    rw [List.getElem?_eq_getElem (show 1 < xs.length by omega), cells_of_3] at z
    exact z
  obtain ⟨a0, e0, hb0⟩ := (opens_i64 Try.underlying3) _ _ _ _ _ _ q0
  obtain rfl : u0 = Value.int .i64 a0 := (List.cons.inj (show [u0] = [Value.int .i64 a0] from e0)).1
  obtain ⟨a1, e1, hb1⟩ := (opens_i64 Try.underlying3) _ _ _ _ _ _ q1
  obtain rfl : u1 = Value.int .i64 a1 := (List.cons.inj (show [u1] = [Value.int .i64 a1] from e1)).1
  exact ⟨a0, a1, rfl, hb0, hb1⟩
theorem opens_S68 : Opens Try.prog k68 68 bdS68 := by
  intro H enc w fuel cs x h
  obtain ⟨a0, a1, rfl, p0, p1⟩ := parts68 h
  exact ⟨(⟨a0, a1⟩ : S68), k68_mk w (⟨a0, a1⟩ : S68) , ⟨p0, p1⟩⟩
theorem cells_of_31 : Try.prog.cellsOf 31 = 3 := by kernel_rfl
theorem cells_of_29 : Try.prog.cellsOf 29 = 1 := by kernel_rfl
theorem parts31 {H : Type} {enc : TypeId × Value → H} {w : World} {fuel : Nat} {cs : List Value} {x : DataW H × List MemPlace} (h : DataW.trod enc Try.prog w 0 (fun _ => true) true fuel 31 cs = some x) :
    ∃ (a0 : Int) (a1 : Int) (A2 : Option Addr) (c2 : Nat) (l2 : List (S68)), cs = [.int .i64 a0, .int .i64 a1, .slice A2 l2.length c2] ∧ bdI64 a0 ∧ bdI64 a1 ∧ (l2.length ≤ c2 ∧ Kd.C k68 w A2 l2.length l2 ∧ (bdList bdS68) l2) := by
  obtain ⟨xs, n, _, _, hlen, hxl, hf⟩ := DataW.trod_struct Try.underlying31 h
  rw [cells_of_31] at hlen
  have hxl2 : xs.length = 3 := hxl
  obtain ⟨u0, u1, u2, rfl⟩ : ∃ u0 u1 u2, cs = [u0, u1, u2] := by
    match cs, hlen with
    | [u0, u1, u2], _ => exact ⟨_, _, _, rfl⟩
  have q0 : DataW.trod enc Try.prog w 0 (fun _ => true) true n 3 [u0] = some (xs[0]'(by omega)) := by
    have z : DataW.trod enc Try.prog w 0 (fun _ => true) true n 3 ((([u0, u1, u2] : List Value).drop 0).take (Try.prog.cellsOf 3)) = xs[0]? := hf 0 _ rfl
    rw [List.getElem?_eq_getElem (show 0 < xs.length by omega), cells_of_3] at z
    exact z
  have q1 : DataW.trod enc Try.prog w 0 (fun _ => true) true n 3 [u1] = some (xs[1]'(by omega)) := by
    have z : DataW.trod enc Try.prog w 0 (fun _ => true) true n 3 ((([u0, u1, u2] : List Value).drop 1).take (Try.prog.cellsOf 3)) = xs[1]? := hf 1 _ rfl
    rw [List.getElem?_eq_getElem (show 1 < xs.length by omega), cells_of_3] at z
    exact z
  have q2 : DataW.trod enc Try.prog w 0 (fun _ => true) true n 29 [u2] = some (xs[2]'(by omega)) := by
    have z : DataW.trod enc Try.prog w 0 (fun _ => true) true n 29 ((([u0, u1, u2] : List Value).drop 2).take (Try.prog.cellsOf 29)) = xs[2]? := hf 2 _ rfl
    rw [List.getElem?_eq_getElem (show 2 < xs.length by omega), cells_of_29] at z
    exact z
  obtain ⟨a0, e0, hb0⟩ := (opens_i64 Try.underlying3) _ _ _ _ _ _ q0
  obtain rfl : u0 = Value.int .i64 a0 := (List.cons.inj (show [u0] = [Value.int .i64 a0] from e0)).1
  obtain ⟨a1, e1, hb1⟩ := (opens_i64 Try.underlying3) _ _ _ _ _ _ q1
  obtain rfl : u1 = Value.int .i64 a1 := (List.cons.inj (show [u1] = [Value.int .i64 a1] from e1)).1
  obtain ⟨l2, ⟨A2, c2, e2, hl2, hg2⟩, hb2⟩ := (opens_slice Try.underlying29 (by kernel_rfl) opens_S68) _ _ _ _ _ _ q2
  obtain rfl : u2 = Value.slice A2 l2.length c2 := (List.cons.inj e2).1
  exact ⟨a0, a1, A2, c2, l2, rfl, hb0, hb1, ⟨hl2, hg2, hb2⟩⟩
theorem walk (a0_0 : Int) (a0_1 : Int) (A0_2 : Option Addr) (c0_2 : Nat) (l0_2 : List (S68)) (a1 : Int) (w : World) (h0_0 : bdI64 a0_0) (h0_1 : bdI64 a0_1) (h0_2 : (l0_2.length ≤ c0_2 ∧ Kd.C k68 w A0_2 l0_2.length l0_2 ∧ (bdList bdS68) l0_2)) (h1 : bdI64 a1) :
    Calls Try.prog 11 #[.agg #[.int .i64 a0_0, .int .i64 a0_1, .slice A0_2 l0_2.length c0_2], .int .i64 a1] w fun e w' => e = .returned (.bool true) ∧ Below w.heap.size w w' := by
  obtain ⟨k, h⟩ := Pure.FnExactOpenLane a0_0 a0_1 l0_2 a1 h0_0 h0_1 h0_2.2.2 h1
  refine (laws_FnExactOpenLane.calls k a0_0 a0_1 _ _ l0_2 a1 true w h0_2.2.1 h0_2.1 h).mono ?_
  rintro e w' ⟨rfl, hd⟩
  exact ⟨rfl, hd⟩
set_option maxRecDepth 100000 in
theorem lifted (os : Os) (started : os.Started) (H : Type) (enc : TypeId × Value → H) :
    ReturnsInHanded {} Try.checked os 11 .any (Rows.fnExactOpenLaneSpec.pre6 enc Try.prog Try.f11 Rows.fnExactOpenLaneRow.domain false) (Rows.fnExactOpenLaneSpec.post enc Try.prog Try.f11 false true false false) := by
  refine returnsInHanded_of_change_sized (C := Try.checked) own started (by kernel_rfl) Try.func11
    (ChangeSpec.witness6 (enc := enc) (C := Try.checked) false ⟨#[], #[.agg #[.int .i64 0, .int .i64 0, .slice none 0 0], .int .i64 0], []⟩ 8 (by kernel_rfl) (by kernel_rfl) (by kernel_rfl) (by kernel_rfl)) ?_
  intro W base args ds gs before hval0 hW hcnd hsz0 _
  have hval : ∀ (j : Nat) t v, Try.f11.params[j]? = some t → args[j]? = some v → Value.okWide Try.prog W .any base t v := hval0
  have hW' := hW
  obtain ⟨p, q, hA0, hV, rfl, hfz, hnd⟩ := hW
  have hA : DataW.TrodAll enc Try.prog W 0 (fun _ => true) true Try.f11.params.toList args.toList ds p := hA0
  rw [Try.params11] at hA hval
  obtain ⟨v0, vs0, d0, ds0, p0, q0, hargs, rfl, rfl, g0, r0⟩ := trodAll_cons hA
  obtain ⟨v1, vs1, d1, ds1, p1, q1, rfl, rfl, rfl, g1, r1⟩ := trodAll_cons r0
  obtain ⟨rfl, rfl, rfl⟩ := trodAll_nil r1
  obtain rfl : args = #[v0, v1] := by cases args; simp_all
  obtain ⟨rfl, rfl⟩ := trodVars_none hV
  have kk0 := g0
  have lt0 : ∀ x ∈ p0, x.block < W.heap.size := by obtain ⟨m, hm⟩ := kk0; exact DataW.trod_lt m _ _ _ hm
  have ok0 := (hval 0 31 v0 rfl rfl)
  simp only [Value.okWide, Try.underlying31] at ok0
  obtain ⟨cs0, rfl, _, _⟩ := ok0
  obtain ⟨fuel0, tr0⟩ := g0
  obtain ⟨a0_0, a0_1, A0_2, c0_2, l0_2, e0, h0_0, h0_1, h0_2⟩ := parts31 (show DataW.trod enc Try.prog W 0 (fun _ => true) true fuel0 31 cs0.toList = some (d0, p0) from tr0)
  obtain rfl : cs0 = #[.int .i64 a0_0, .int .i64 a0_1, .slice A0_2 l0_2.length c0_2] := Array.toList_inj.mp e0
  have kk1 := g1
  have lt1 : ∀ x ∈ p1, x.block < W.heap.size := by obtain ⟨m, hm⟩ := kk1; exact DataW.trod_lt m _ _ _ hm
  obtain ⟨a1, rfl, _, _, w1⟩ := open_int Try.underlying3 (hval 1 3 v1 rfl rfl) g1
  have h1 : bdI64 a1 := bounds_i64 w1
  clear hA0 hval0 hsz0
  refine (walk a0_0 a0_1 A0_2 c0_2 l0_2 a1 W h0_0 h0_1 h0_2 h1).mono fun e W' ⟨he, bel⟩ => ?_
  subst he
  exact ⟨_, rfl, _, _, _, [], _, [], hW', trodAll_mk1 (shut_bool Try.underlying4 _), (trodAll_cons_mk (Below.trod laidOut (by kernel_rfl) (of_decide_eq_true (by kernel_rfl)) kk0 bel lt0) (trodAll_cons_mk (Below.trod laidOut (by kernel_rfl) (of_decide_eq_true (by kernel_rfl)) kk1 bel lt1) trodAll_mk0)), rfl, bel.frame _, fun h => by cases h⟩
theorem over : Rows.fnExactOpenLaneRow.holds Try.pinned (OpenSpec.ofChange Rows.fnExactOpenLaneSpec) :=
  OpenClaim.holds_of_wide 11 Try.f11 rfl rfl rfl rfl rfl rfl rfl ⟨rfl, rfl, rfl, rfl, rfl⟩ rfl rfl rfl rfl rfl (by kernel_rfl) Try.func11 (by kernel_rfl)
    (of_decide_eq_true (by kernel_rfl)) (by unfold Func.isWrapper; first | (rw [if_pos (by decide +kernel)]; kernel_rfl) | (rw [if_neg (by decide +kernel)]; exact ⟨rfl, rfl⟩))
    (fun os started H enc _ => lifted os started H enc)
theorem proved : Rows.FnExactOpenLaneSaid := over
#print axioms proved
end Go.Proofs.Ytejnagdmfooemaa.fnExactOpenLane
namespace Go.Proofs.Ytejnagdmfooemaa
/-- The row, under a short name, for the claim. -/
theorem fnExactOpenLane_holds : Rows.FnExactOpenLaneSaid := fnExactOpenLane.proved
end Go.Proofs.Ytejnagdmfooemaa
