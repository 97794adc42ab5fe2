/- The law laws.FnExactPutRec: for every input the call returns true, and each argument reads afterwards as it read before. No condition. -/
import Derived.Test.YtadjcmipkbjkiaaRows
import Derived.Test.YtadjcmipkbjkiaaSFnExactPutRec
import Derived.Test.YtadjcmipkbjkiaaPureFnExactPutRec
import Derived.WalkKit
import Derived.ProofKit
import Derived.OpenShut
import Derived.ShutString
import Derived.ChangeOld
import Derived.Below
import Derived.Carry
namespace Go.Proofs.Ytadjcmipkbjkiaa.fnExactPutRec
open Go.ChangeShapes Go.WideShapes Go.ChangeAt Go.RowKit Go.Proofs.Ytadjcmipkbjkiaa.QFnExactPutRec Go.Proofs.YtadjcmipkbjkiaaW.PrintWords Go.Proofs.YtadjcmipkbjkiaaW.PrintOpen
open Go.ChangeMaps (open_string shut_string)
set_option linter.unusedVariables false
theorem own : ownKnob Try.prog.godebug = none := by kernel_rfl
theorem laidOut : laidOutB Try.prog = true := by kernel_rfl
theorem cells_of_24 : Try.prog.cellsOf 24 = 6 := by kernel_rfl
theorem cells_of_3 : Try.prog.cellsOf 3 = 1 := by kernel_rfl
theorem cells_of_9 : Try.prog.cellsOf 9 = 1 := by kernel_rfl
theorem cells_of_22 : Try.prog.cellsOf 22 = 1 := by kernel_rfl
theorem parts24 {H : Type} {enc : TypeId × Value → H} {w : World} {fuel : Nat} {cs : List Value} {x : DataW H × List MemPlace} (h : DataW.trod enc Try.prog w 0 (fun _ => true) true fuel 24 cs = some x) :
    ∃ (a0 : Int) (a1 : Int) (a2 : Int) (a3 : ByteArray) (a4 : Int) (A5 : Option Addr) (c5 : Nat) (l5 : List Int), cs = [.int .i64 a0, .int .i64 a1, .int .i64 a2, .string a3, .int .i64 a4, .slice A5 l5.length c5] ∧ bdI64 a0 ∧ bdI64 a1 ∧ bdI64 a2 ∧ bdStr a3 ∧ bdI64 a4 ∧ (l5.length ≤ c5 ∧ Kd.C (Kd.int .u8) w A5 l5.length l5 ∧ (bdList bdU8) l5) := by
  obtain ⟨xs, n, _, _, hlen, hxl, hf⟩ := DataW.trod_struct Try.underlying24 h
  rw [cells_of_24] at hlen
  have hxl2 : xs.length = 6 := hxl
  obtain ⟨u0, u1, u2, u3, u4, u5, rfl⟩ : ∃ u0 u1 u2 u3 u4 u5, cs = [u0, u1, u2, u3, u4, u5] := by
    match cs, hlen with
    | [u0, u1, u2, u3, u4, u5], _ => exact ⟨_, _, _, _, _, _, rfl⟩
  have q0 : DataW.trod enc Try.prog w 0 (fun _ => true) true n 3 [u0] = some (xs[0]'(by omega)) := by
    have z : DataW.trod enc Try.prog w 0 (fun _ => true) true n 3 ((([u0, u1, u2, u3, u4, u5] : List Value).drop 0).take (Try.prog.cellsOf 3)) = xs[0]? := hf 0 _ rfl
    rw [List.getElem?_eq_getElem (show 0 < xs.length by omega), cells_of_3] at z
    exact z
  have q1 : DataW.trod enc Try.prog w 0 (fun _ => true) true n 3 [u1] = some (xs[1]'(by omega)) := by
    have z : DataW.trod enc Try.prog w 0 (fun _ => true) true n 3 ((([u0, u1, u2, u3, u4, u5] : List Value).drop 1).take (Try.prog.cellsOf 3)) = xs[1]? := hf 1 _ rfl
    rw [List.getElem?_eq_getElem (show 1 < xs.length by omega), cells_of_3] at z
    exact z
  have q2 : DataW.trod enc Try.prog w 0 (fun _ => true) true n 3 [u2] = some (xs[2]'(by omega)) := by
    have z : DataW.trod enc Try.prog w 0 (fun _ => true) true n 3 ((([u0, u1, u2, u3, u4, u5] : List Value).drop 2).take (Try.prog.cellsOf 3)) = xs[2]? := hf 2 _ rfl
    rw [List.getElem?_eq_getElem (show 2 < xs.length by omega), cells_of_3] at z
    exact z
  have q3 : DataW.trod enc Try.prog w 0 (fun _ => true) true n 9 [u3] = some (xs[3]'(by omega)) := by
    have z : DataW.trod enc Try.prog w 0 (fun _ => true) true n 9 ((([u0, u1, u2, u3, u4, u5] : List Value).drop 3).take (Try.prog.cellsOf 9)) = xs[3]? := hf 3 _ rfl
    rw [List.getElem?_eq_getElem (show 3 < xs.length by omega), cells_of_9] at z
    exact z
  have q4 : DataW.trod enc Try.prog w 0 (fun _ => true) true n 3 [u4] = some (xs[4]'(by omega)) := by
    have z : DataW.trod enc Try.prog w 0 (fun _ => true) true n 3 ((([u0, u1, u2, u3, u4, u5] : List Value).drop 4).take (Try.prog.cellsOf 3)) = xs[4]? := hf 4 _ rfl
    rw [List.getElem?_eq_getElem (show 4 < xs.length by omega), cells_of_3] at z
    exact z
  have q5 : DataW.trod enc Try.prog w 0 (fun _ => true) true n 22 [u5] = some (xs[5]'(by omega)) := by
    have z : DataW.trod enc Try.prog w 0 (fun _ => true) true n 22 ((([u0, u1, u2, u3, u4, u5] : List Value).drop 5).take (Try.prog.cellsOf 22)) = xs[5]? := hf 5 _ rfl
    rw [List.getElem?_eq_getElem (show 5 < xs.length by omega), cells_of_22] at z
    exact z
  obtain ⟨a0, e0, hb0⟩ := (opens_i64 Try.underlying3) _ _ _ _ _ _ q0
  obtain rfl : u0 = Value.int .i64 a0 := (List.cons.inj (show [u0] = [Value.int .i64 a0] from e0)).1
  obtain ⟨a1, e1, hb1⟩ := (opens_i64 Try.underlying3) _ _ _ _ _ _ q1
  obtain rfl : u1 = Value.int .i64 a1 := (List.cons.inj (show [u1] = [Value.int .i64 a1] from e1)).1
  obtain ⟨a2, e2, hb2⟩ := (opens_i64 Try.underlying3) _ _ _ _ _ _ q2
  obtain rfl : u2 = Value.int .i64 a2 := (List.cons.inj (show [u2] = [Value.int .i64 a2] from e2)).1
  obtain ⟨a3, e3, hb3⟩ := (opens_str Try.underlying9) _ _ _ _ _ _ q3
  obtain rfl : u3 = Value.string a3 := (List.cons.inj (show [u3] = [Value.string a3] from e3)).1
  obtain ⟨a4, e4, hb4⟩ := (opens_i64 Try.underlying3) _ _ _ _ _ _ q4
  obtain rfl : u4 = Value.int .i64 a4 := (List.cons.inj (show [u4] = [Value.int .i64 a4] from e4)).1
  obtain ⟨l5, ⟨A5, c5, e5, hl5, hg5⟩, hb5⟩ := (opens_slice Try.underlying22 (by kernel_rfl) (opens_u8 Try.underlying5)) _ _ _ _ _ _ q5
  obtain rfl : u5 = Value.slice A5 l5.length c5 := (List.cons.inj e5).1
  exact ⟨a0, a1, a2, a3, a4, A5, c5, l5, rfl, hb0, hb1, hb2, hb3, hb4, ⟨hl5, hg5, hb5⟩⟩
theorem walk (a0_0 : Int) (a0_1 : Int) (a0_2 : Int) (a0_3 : ByteArray) (a0_4 : Int) (A0_5 : Option Addr) (c0_5 : Nat) (l0_5 : List Int) (w : World) (h0_0 : bdI64 a0_0) (h0_1 : bdI64 a0_1) (h0_2 : bdI64 a0_2) (h0_3 : bdStr a0_3) (h0_4 : bdI64 a0_4) (h0_5 : (l0_5.length ≤ c0_5 ∧ Kd.C (Kd.int .u8) w A0_5 l0_5.length l0_5 ∧ (bdList bdU8) l0_5)) :
    Calls Try.prog 4 #[.agg #[.int .i64 a0_0, .int .i64 a0_1, .int .i64 a0_2, .string a0_3, .int .i64 a0_4, .slice A0_5 l0_5.length c0_5]] w fun e w' => e = .returned (.bool true) ∧ Below w.heap.size w w' := by
  obtain ⟨k, h⟩ := Pure.FnExactPutRec a0_0 a0_1 a0_2 a0_3 a0_4 l0_5 h0_0 h0_1 h0_2 h0_3 h0_4 h0_5.2.2
  refine (laws_FnExactPutRec.calls k a0_0 a0_1 a0_2 a0_3 a0_4 _ _ l0_5 true w h0_5.2.1 h0_5.1 h).mono ?_
  rintro e w' ⟨rfl, hd⟩
  exact ⟨rfl, hd⟩
set_option maxRecDepth 100000 in
theorem lifted (os : Os) (started : os.Started) (H : Type) (enc : TypeId × Value → H) :
    ReturnsInHanded {} Try.checked os 4 .any (Rows.fnExactPutRecSpec.pre6 enc Try.prog Try.f4 Rows.fnExactPutRecRow.domain false) (Rows.fnExactPutRecSpec.post enc Try.prog Try.f4 false true false false) := by
  refine returnsInHanded_of_change_sized (C := Try.checked) own started (by kernel_rfl) Try.func4
    (ChangeSpec.witness6 (enc := enc) (C := Try.checked) false ⟨#[], #[.agg #[.int .i64 0, .int .i64 0, .int .i64 0, .string ByteArray.empty, .int .i64 0, .slice none 0 0]], []⟩ 8 (by kernel_rfl) (by kernel_rfl) (by kernel_rfl) (by kernel_rfl)) ?_
  intro W base args ds gs before hval0 hW hcnd hsz0 _
  have hval : ∀ (j : Nat) t v, Try.f4.params[j]? = some t → args[j]? = some v → Value.okWide Try.prog W .any base t v := hval0
  have hW' := hW
  obtain ⟨p, q, hA0, hV, rfl, hfz, hnd⟩ := hW
  have hA : DataW.TrodAll enc Try.prog W 0 (fun _ => true) true Try.f4.params.toList args.toList ds p := hA0
  rw [Try.params4] at hA hval
  obtain ⟨v0, vs0, d0, ds0, p0, q0, hargs, rfl, rfl, g0, r0⟩ := trodAll_cons hA
  obtain ⟨rfl, rfl, rfl⟩ := trodAll_nil r0
  obtain rfl : args = #[v0] := by cases args; simp_all
  obtain ⟨rfl, rfl⟩ := trodVars_none hV
  have kk0 := g0
  have lt0 : ∀ x ∈ p0, x.block < W.heap.size := by obtain ⟨m, hm⟩ := kk0; exact DataW.trod_lt m _ _ _ hm
  have ok0 := (hval 0 24 v0 rfl rfl)
  simp only [Value.okWide, Try.underlying24] at ok0
  obtain ⟨cs0, rfl, _, _⟩ := ok0
  obtain ⟨fuel0, tr0⟩ := g0
  obtain ⟨a0_0, a0_1, a0_2, a0_3, a0_4, A0_5, c0_5, l0_5, e0, h0_0, h0_1, h0_2, h0_3, h0_4, h0_5⟩ := parts24 (show DataW.trod enc Try.prog W 0 (fun _ => true) true fuel0 24 cs0.toList = some (d0, p0) from tr0)
  obtain rfl : cs0 = #[.int .i64 a0_0, .int .i64 a0_1, .int .i64 a0_2, .string a0_3, .int .i64 a0_4, .slice A0_5 l0_5.length c0_5] := Array.toList_inj.mp e0
  clear hA0 hval0 hsz0
  refine (walk a0_0 a0_1 a0_2 a0_3 a0_4 A0_5 c0_5 l0_5 W h0_0 h0_1 h0_2 h0_3 h0_4 h0_5).mono fun e W' ⟨he, bel⟩ => ?_
  subst he
  exact ⟨_, rfl, _, _, _, [], _, [], hW', trodAll_mk1 (shut_bool Try.underlying4 _), (trodAll_cons_mk (Below.trod laidOut (by kernel_rfl) (of_decide_eq_true (by kernel_rfl)) kk0 bel lt0) trodAll_mk0), rfl, bel.frame _, fun h => by cases h⟩
theorem over : Rows.fnExactPutRecRow.holds Try.pinned (OpenSpec.ofChange Rows.fnExactPutRecSpec) :=
  OpenClaim.holds_of_wide 4 Try.f4 rfl rfl rfl rfl rfl rfl rfl ⟨rfl, rfl, rfl, rfl, rfl⟩ rfl rfl rfl rfl rfl (by kernel_rfl) Try.func4 (by kernel_rfl)
    (of_decide_eq_true (by kernel_rfl)) (by unfold Func.isWrapper; first | (rw [if_pos (by decide +kernel)]; kernel_rfl) | (rw [if_neg (by decide +kernel)]; exact ⟨rfl, rfl⟩))
    (fun os started H enc _ => lifted os started H enc)
theorem proved : Rows.FnExactPutRecSaid := over
#print axioms proved
end Go.Proofs.Ytadjcmipkbjkiaa.fnExactPutRec
namespace Go.Proofs.Ytadjcmipkbjkiaa
/-- The row, under a short name, for the claim. -/
theorem fnExactPutRec_holds : Rows.FnExactPutRecSaid := fnExactPutRec.proved
end Go.Proofs.Ytadjcmipkbjkiaa
