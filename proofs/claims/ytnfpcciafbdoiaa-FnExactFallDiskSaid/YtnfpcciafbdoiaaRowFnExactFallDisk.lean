/- The law laws.FnExactFallDisk: for every input the call returns true, and each argument reads afterwards as it read before. No condition. -/
import Derived.Test.YtnfpcciafbdoiaaRows
import Derived.Test.YtnfpcciafbdoiaaSFnExactFallDisk
import Derived.Test.YtnfpcciafbdoiaaPureFnExactFallDisk
import Derived.WalkKit
import Derived.ProofKit
import Derived.OpenShut
import Derived.ShutString
import Derived.ChangeOld
import Derived.Below
import Derived.Carry
namespace Go.Proofs.Ytnfpcciafbdoiaa.fnExactFallDisk
open Go.ChangeShapes Go.WideShapes Go.ChangeAt Go.RowKit Go.Proofs.Ytnfpcciafbdoiaa.QFnExactFallDisk Go.Proofs.YtnfpcciafbdoiaaW.PrintWords Go.Proofs.YtnfpcciafbdoiaaW.PrintOpen
open Go.ChangeMaps (open_string shut_string)
set_option linter.unusedVariables false
theorem own : ownKnob Try.prog.godebug = none := by kernel_rfl
theorem laidOut : laidOutB Try.prog = true := by kernel_rfl
theorem cells_of_24 : Try.prog.cellsOf 24 = 2 := by kernel_rfl
theorem cells_of_22 : Try.prog.cellsOf 22 = 1 := by kernel_rfl
theorem parts24 {H : Type} {enc : TypeId × Value → H} {w : World} {fuel : Nat} {cs : List Value} {x : DataW H × List MemPlace} (h : DataW.trod enc Try.prog w 0 (fun _ => true) true fuel 24 cs = some x) :
    ∃ (A0 : Option Addr) (c0 : Nat) (l0 : List ByteArray) (A1 : Option Addr) (c1 : Nat) (l1 : List ByteArray), cs = [.slice A0 l0.length c0, .slice A1 l1.length c1] ∧ (l0.length ≤ c0 ∧ Kd.C Kd.string w A0 l0.length l0 ∧ (bdList bdStr) l0) ∧ (l1.length ≤ c1 ∧ Kd.C Kd.string w A1 l1.length l1 ∧ (bdList bdStr) l1) := by
  obtain ⟨xs, n, _, _, hlen, hxl, hf⟩ := DataW.trod_struct Try.underlying24 h
  rw [cells_of_24] at hlen
  have hxl2 : xs.length = 2 := hxl
  obtain ⟨u0, u1, rfl⟩ : ∃ u0 u1, cs = [u0, u1] := by
    match cs, hlen with
    | [u0, u1], _ => exact ⟨_, _, rfl⟩
  have q0 : DataW.trod enc Try.prog w 0 (fun _ => true) true n 22 [u0] = some (xs[0]'(by omega)) := by
    have z : DataW.trod enc Try.prog w 0 (fun _ => true) true n 22 ((([u0, u1] : List Value).drop 0).take (Try.prog.cellsOf 22)) = xs[0]? := hf 0 _ rfl
    rw [List.getElem?_eq_getElem (show 0 < xs.length by omega), cells_of_22] at z
    exact z
  have q1 : DataW.trod enc Try.prog w 0 (fun _ => true) true n 22 [u1] = some (xs[1]'(by omega)) := by
    have z : DataW.trod enc Try.prog w 0 (fun _ => true) true n 22 ((([u0, u1] : List Value).drop 1).take (Try.prog.cellsOf 22)) = xs[1]? := hf 1 _ rfl
    rw [List.getElem?_eq_getElem (show 1 < xs.length by omega), cells_of_22] at z
    exact z
  obtain ⟨l0, ⟨A0, c0, e0, hl0, hg0⟩, hb0⟩ := (opens_slice Try.underlying22 (by kernel_rfl) (opens_str Try.underlying9)) _ _ _ _ _ _ q0
  obtain rfl : u0 = Value.slice A0 l0.length c0 := (List.cons.inj e0).1
  obtain ⟨l1, ⟨A1, c1, e1, hl1, hg1⟩, hb1⟩ := (opens_slice Try.underlying22 (by kernel_rfl) (opens_str Try.underlying9)) _ _ _ _ _ _ q1
  obtain rfl : u1 = Value.slice A1 l1.length c1 := (List.cons.inj e1).1
  exact ⟨A0, c0, l0, A1, c1, l1, rfl, ⟨hl0, hg0, hb0⟩, ⟨hl1, hg1, hb1⟩⟩
theorem walk (A0_0 : Option Addr) (c0_0 : Nat) (l0_0 : List ByteArray) (A0_1 : Option Addr) (c0_1 : Nat) (l0_1 : List ByteArray) (A1 : Option Addr) (c1 : Nat) (l1 : List Bool) (w : World) (h0_0 : (l0_0.length ≤ c0_0 ∧ Kd.C Kd.string w A0_0 l0_0.length l0_0 ∧ (bdList bdStr) l0_0)) (h0_1 : (l0_1.length ≤ c0_1 ∧ Kd.C Kd.string w A0_1 l0_1.length l0_1 ∧ (bdList bdStr) l0_1)) (h1 : (l1.length ≤ c1 ∧ Kd.C Kd.bool w A1 l1.length l1 ∧ (bdList bdBool) l1)) :
    Calls Try.prog 10 #[.agg #[.slice A0_0 l0_0.length c0_0, .slice A0_1 l0_1.length c0_1], .slice A1 l1.length c1] w fun e w' => e = .returned (.bool true) ∧ Below w.heap.size w w' := by
  obtain ⟨k, h⟩ := Pure.FnExactFallDisk l0_0 l0_1 l1 h0_0.2.2 h0_1.2.2 h1.2.2
  refine (laws_FnExactFallDisk.calls k _ _ l0_0 _ _ l0_1 _ _ l1 true w h0_0.2.1 h0_0.1 h0_1.2.1 h0_1.1 h1.2.1 h1.1 h).mono ?_
  rintro e w' ⟨rfl, hd⟩
  exact ⟨rfl, hd⟩
set_option maxRecDepth 100000 in
theorem lifted (os : Os) (started : os.Started) (H : Type) (enc : TypeId × Value → H) :
    ReturnsInHanded {} Try.checked os 10 .any (Rows.fnExactFallDiskSpec.pre6 enc Try.prog Try.f10 Rows.fnExactFallDiskRow.domain false) (Rows.fnExactFallDiskSpec.post enc Try.prog Try.f10 false true false false) := by
  refine returnsInHanded_of_change_sized (C := Try.checked) own started (by kernel_rfl) Try.func10
    (ChangeSpec.witness6 (enc := enc) (C := Try.checked) false ⟨#[], #[.agg #[.slice none 0 0, .slice none 0 0], .slice none 0 0], []⟩ 8 (by kernel_rfl) (by kernel_rfl) (by kernel_rfl) (by kernel_rfl)) ?_
  intro W base args ds gs before hval0 hW hcnd hsz0 _
  have hval : ∀ (j : Nat) t v, Try.f10.params[j]? = some t → args[j]? = some v → Value.okWide Try.prog W .any base t v := hval0
  have hW' := hW
  obtain ⟨p, q, hA0, hV, rfl, hfz, hnd⟩ := hW
  have hA : DataW.TrodAll enc Try.prog W 0 (fun _ => true) true Try.f10.params.toList args.toList ds p := hA0
  rw [Try.params10] at hA hval
  obtain ⟨v0, vs0, d0, ds0, p0, q0, hargs, rfl, rfl, g0, r0⟩ := trodAll_cons hA
  obtain ⟨v1, vs1, d1, ds1, p1, q1, rfl, rfl, rfl, g1, r1⟩ := trodAll_cons r0
  obtain ⟨rfl, rfl, rfl⟩ := trodAll_nil r1
  obtain rfl : args = #[v0, v1] := by cases args; simp_all
  obtain ⟨rfl, rfl⟩ := trodVars_none hV
  have kk0 := g0
  have lt0 : ∀ x ∈ p0, x.block < W.heap.size := by obtain ⟨m, hm⟩ := kk0; exact DataW.trod_lt m _ _ _ hm
  have ok0 := (hval 0 24 v0 rfl rfl)
  simp only [Value.okWide, Try.underlying24] at ok0
  obtain ⟨cs0, rfl, _, _⟩ := ok0
  obtain ⟨fuel0, tr0⟩ := g0
  obtain ⟨A0_0, c0_0, l0_0, A0_1, c0_1, l0_1, e0, h0_0, h0_1⟩ := parts24 (show DataW.trod enc Try.prog W 0 (fun _ => true) true fuel0 24 cs0.toList = some (d0, p0) from tr0)
  obtain rfl : cs0 = #[.slice A0_0 l0_0.length c0_0, .slice A0_1 l0_1.length c0_1] := Array.toList_inj.mp e0
  have kk1 := g1
  have lt1 : ∀ x ∈ p1, x.block < W.heap.size := by obtain ⟨m, hm⟩ := kk1; exact DataW.trod_lt m _ _ _ hm
  obtain ⟨a1, len1, cap1, rfl⟩ := okWide_slice Try.underlying43 (hval 1 43 v1 rfl rfl)
  obtain ⟨fuel1, tr1⟩ := g1
  obtain ⟨l1, ⟨A1, c1, e1, hl1, hg1⟩, hb1⟩ := (opens_slice Try.underlying43 (by kernel_rfl) (opens_bool Try.underlying4)) _ _ _ _ _ _ (show DataW.trod enc Try.prog W 0 (fun _ => true) true fuel1 43 [.slice a1 len1 cap1] = some (d1, p1) from tr1)
  obtain ⟨rfl, rfl, rfl⟩ : A1 = a1 ∧ l1.length = len1 ∧ c1 = cap1 := by simpa [eq_comm] using e1
  have h1 := And.intro hl1 (And.intro hg1 hb1)
  clear hA0 hval0 hsz0
  refine (walk A0_0 c0_0 l0_0 A0_1 c0_1 l0_1 A1 c1 l1 W h0_0 h0_1 h1).mono fun e W' ⟨he, bel⟩ => ?_
  subst he
  exact ⟨_, rfl, _, _, _, [], _, [], hW', trodAll_mk1 (shut_bool Try.underlying4 _), (trodAll_cons_mk (Below.trod laidOut (by kernel_rfl) (of_decide_eq_true (by kernel_rfl)) kk0 bel lt0) (trodAll_cons_mk (Below.trod laidOut (by kernel_rfl) (of_decide_eq_true (by kernel_rfl)) kk1 bel lt1) trodAll_mk0)), rfl, bel.frame _, fun h => by cases h⟩
theorem over : Rows.fnExactFallDiskRow.holds Try.pinned (OpenSpec.ofChange Rows.fnExactFallDiskSpec) :=
  OpenClaim.holds_of_wide 10 Try.f10 rfl rfl rfl rfl rfl rfl rfl ⟨rfl, rfl, rfl, rfl, rfl⟩ rfl rfl rfl rfl rfl (by kernel_rfl) Try.func10 (by kernel_rfl)
    (of_decide_eq_true (by kernel_rfl)) (by unfold Func.isWrapper; first | (rw [if_pos (by decide +kernel)]; kernel_rfl) | (rw [if_neg (by decide +kernel)]; exact ⟨rfl, rfl⟩))
    (fun os started H enc _ => lifted os started H enc)
theorem proved : Rows.FnExactFallDiskSaid := over
#print axioms proved
end Go.Proofs.Ytnfpcciafbdoiaa.fnExactFallDisk
namespace Go.Proofs.Ytnfpcciafbdoiaa
/-- The row, under a short name, for the claim. -/
theorem fnExactFallDisk_holds : Rows.FnExactFallDiskSaid := fnExactFallDisk.proved
end Go.Proofs.Ytnfpcciafbdoiaa
