/- The law laws.FnExactRespOk: for every input the call returns true, and each argument reads afterwards as it read before. No condition. -/
import Derived.Test.YtmkjkaijphmnpaaRows
import Derived.Test.YtmkjkaijphmnpaaSFnExactRespOk
import Derived.Test.YtmkjkaijphmnpaaPureFnExactRespOk
import Derived.WalkKit
import Derived.ProofKit
import Derived.OpenShut
import Derived.ShutString
import Derived.ChangeOld
import Derived.Below
import Derived.Carry
namespace Go.Proofs.Ytmkjkaijphmnpaa.fnExactRespOk
open Go.ChangeShapes Go.WideShapes Go.ChangeAt Go.RowKit Go.Proofs.Ytmkjkaijphmnpaa.QFnExactRespOk Go.Proofs.YtmkjkaijphmnpaaW.PrintWords Go.Proofs.YtmkjkaijphmnpaaW.PrintOpen
open Go.ChangeMaps (open_string shut_string)
set_option linter.unusedVariables false
theorem own : ownKnob Try.prog.godebug = none := by kernel_rfl
theorem laidOut : laidOutB Try.prog = true := by kernel_rfl
theorem cells_of_23 : Try.prog.cellsOf 23 = 2 := by kernel_rfl
theorem cells_of_3 : Try.prog.cellsOf 3 = 1 := by kernel_rfl
theorem parts23 {H : Type} {enc : TypeId × Value → H} {w : World} {fuel : Nat} {cs : List Value} {x : DataW H × List MemPlace} (h : DataW.trod enc Try.prog w 0 (fun _ => true) true fuel 23 cs = some x) :
    ∃ (a0 : Int) (a1 : Int), cs = [.int .i64 a0, .int .i64 a1] ∧ bdI64 a0 ∧ bdI64 a1 := by
  obtain ⟨xs, n, _, _, hlen, hxl, hf⟩ := DataW.trod_struct Try.underlying23 h
  rw [cells_of_23] at hlen
  have hxl2 : xs.length = 2 := hxl
  obtain ⟨u0, u1, rfl⟩ : ∃ u0 u1, cs = [u0, u1] := by
    match cs, hlen with
    | [u0, u1], _ => exact ⟨_, _, rfl⟩
  have q0 : DataW.trod enc Try.prog w 0 (fun _ => true) true n 3 [u0] = some (xs[0]'(by omega)) := by
    have z : DataW.trod enc Try.prog w 0 (fun _ => true) true n 3 ((([u0, u1] : List Value).drop 0).take (Try.prog.cellsOf 3)) = xs[0]? := hf 0 _ rfl
    rw [List.getElem?_eq_getElem (show 0 < xs.length by omega), cells_of_3] at z
    exact z
  have q1 : DataW.trod enc Try.prog w 0 (fun _ => true) true n 3 [u1] = some (xs[1]'(by omega)) := by
    have z : DataW.trod enc Try.prog w 0 (fun _ => true) true n 3 ((([u0, u1] : List Value).drop 1).take (Try.prog.cellsOf 3)) = xs[1]? := hf 1 _ rfl
    rw [List.getElem?_eq_getElem (show 1 < xs.length by omega), cells_of_3] at z
    exact z
  obtain ⟨a0, e0, hb0⟩ := (opens_i64 Try.underlying3) _ _ _ _ _ _ q0
  obtain rfl : u0 = Value.int .i64 a0 := (List.cons.inj (show [u0] = [Value.int .i64 a0] from e0)).1
  obtain ⟨a1, e1, hb1⟩ := (opens_i64 Try.underlying3) _ _ _ _ _ _ q1
  obtain rfl : u1 = Value.int .i64 a1 := (List.cons.inj (show [u1] = [Value.int .i64 a1] from e1)).1
  exact ⟨a0, a1, rfl, hb0, hb1⟩
theorem walk (a0_0 : Int) (a0_1 : Int) (w : World) (h0_0 : bdI64 a0_0) (h0_1 : bdI64 a0_1) :
    Calls Try.prog 3 #[.agg #[.int .i64 a0_0, .int .i64 a0_1]] w fun e w' => e = .returned (.bool true) ∧ Below w.heap.size w w' := by
  have h := Pure.FnExactRespOk a0_0 a0_1 h0_0 h0_1
  refine (laws_FnExactRespOk.calls a0_0 a0_1 true w h).mono ?_
  rintro e w' ⟨rfl, hd⟩
  exact ⟨rfl, hd⟩
set_option maxRecDepth 100000 in
theorem lifted (os : Os) (started : os.Started) (H : Type) (enc : TypeId × Value → H) :
    ReturnsInHanded {} Try.checked os 3 .any (Rows.fnExactRespOkSpec.pre6 enc Try.prog Try.f3 Rows.fnExactRespOkRow.domain false) (Rows.fnExactRespOkSpec.post enc Try.prog Try.f3 false true false false) := by
  refine returnsInHanded_of_change_sized (C := Try.checked) own started (by kernel_rfl) Try.func3
    (ChangeSpec.witness6 (enc := enc) (C := Try.checked) false ⟨#[], #[.agg #[.int .i64 0, .int .i64 0]], []⟩ 8 (by kernel_rfl) (by kernel_rfl) (by kernel_rfl) (by kernel_rfl)) ?_
  intro W base args ds gs before hval0 hW hcnd hsz0 _
  have hval : ∀ (j : Nat) t v, Try.f3.params[j]? = some t → args[j]? = some v → Value.okWide Try.prog W .any base t v := hval0
  have hW' := hW
  obtain ⟨p, q, hA0, hV, rfl, hfz, hnd⟩ := hW
  have hA : DataW.TrodAll enc Try.prog W 0 (fun _ => true) true Try.f3.params.toList args.toList ds p := hA0
  rw [Try.params3] at hA hval
  obtain ⟨v0, vs0, d0, ds0, p0, q0, hargs, rfl, rfl, g0, r0⟩ := trodAll_cons hA
  obtain ⟨rfl, rfl, rfl⟩ := trodAll_nil r0
  obtain rfl : args = #[v0] := by cases args; simp_all
  obtain ⟨rfl, rfl⟩ := trodVars_none hV
  have kk0 := g0
  have lt0 : ∀ x ∈ p0, x.block < W.heap.size := by obtain ⟨m, hm⟩ := kk0; exact DataW.trod_lt m _ _ _ hm
  have ok0 := (hval 0 23 v0 rfl rfl)
  simp only [Value.okWide, Try.underlying23] at ok0
  obtain ⟨cs0, rfl, _, _⟩ := ok0
  obtain ⟨fuel0, tr0⟩ := g0
  obtain ⟨a0_0, a0_1, e0, h0_0, h0_1⟩ := parts23 (show DataW.trod enc Try.prog W 0 (fun _ => true) true fuel0 23 cs0.toList = some (d0, p0) from tr0)
  obtain rfl : cs0 = #[.int .i64 a0_0, .int .i64 a0_1] := Array.toList_inj.mp e0
  clear hA0 hval0 hsz0
  refine (walk a0_0 a0_1 W h0_0 h0_1).mono fun e W' ⟨he, bel⟩ => ?_
  subst he
  exact ⟨_, rfl, _, _, _, [], _, [], hW', trodAll_mk1 (shut_bool Try.underlying4 _), (trodAll_cons_mk (Below.trod laidOut (by kernel_rfl) (of_decide_eq_true (by kernel_rfl)) kk0 bel lt0) trodAll_mk0), rfl, bel.frame _, fun h => by cases h⟩
theorem over : Rows.fnExactRespOkRow.holds Try.pinned (OpenSpec.ofChange Rows.fnExactRespOkSpec) :=
  OpenClaim.holds_of_wide 3 Try.f3 rfl rfl rfl rfl rfl rfl rfl ⟨rfl, rfl, rfl, rfl, rfl⟩ rfl rfl rfl rfl rfl (by kernel_rfl) Try.func3 (by kernel_rfl)
    (of_decide_eq_true (by kernel_rfl)) (by unfold Func.isWrapper; first | (rw [if_pos (by decide +kernel)]; kernel_rfl) | (rw [if_neg (by decide +kernel)]; exact ⟨rfl, rfl⟩))
    (fun os started H enc _ => lifted os started H enc)
theorem proved : Rows.FnExactRespOkSaid := over
#print axioms proved
end Go.Proofs.Ytmkjkaijphmnpaa.fnExactRespOk
namespace Go.Proofs.Ytmkjkaijphmnpaa
/-- The row, under a short name, for the claim. -/
theorem fnExactRespOk_holds : Rows.FnExactRespOkSaid := fnExactRespOk.proved
end Go.Proofs.Ytmkjkaijphmnpaa
