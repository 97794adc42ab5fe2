/- The law laws.FnExactFeed: for every input the call returns true, and each argument reads afterwards as it read before. No condition. -/
import Derived.Test.YtmckbfmadgfddaaRows
import Derived.Test.YtmckbfmadgfddaaG5
import Derived.Test.YtmckbfmadgfddaaMD
namespace Go.Proofs.Ytmckbfmadgfddaa.fnExactFeed
open Go.ChangeShapes Go.WideShapes Go.ChangeAt Go.RowKit Go.Proofs.Ytmckbfmadgfddaa
open Go.ChangeMaps (open_string shut_string)
set_option linter.unusedVariables false
theorem own : ownKnob Try.prog.godebug = none := by kernel_rfl
theorem laidOut : laidOutB Try.prog = true := by kernel_rfl
set_option maxRecDepth 100000 in
theorem lifted (os : Os) (started : os.Started) (H : Type) (enc : TypeId × Value → H) :
    ReturnsInHanded {} Try.checked os 3 .any (Rows.fnExactFeedSpec.pre6 enc Try.prog Try.f3 Rows.fnExactFeedRow.domain false) (Rows.fnExactFeedSpec.post enc Try.prog Try.f3 false true false false) := by
  refine returnsInHanded_of_change_sized (C := Try.checked) own started (by kernel_rfl) Try.func3
    (ChangeSpec.witness6 (enc := enc) (C := Try.checked) false ⟨#[], #[.agg #[.int .i64 0, .bool false, .slice none 0 0], .agg #[.int .i64 0, .int .i64 0, .int .i64 0, .slice none 0 0]], []⟩ 8 (by kernel_rfl) (by kernel_rfl) (by kernel_rfl) (by kernel_rfl)) ?_
  intro W base args ds gs before hval0 hW hcnd hsz0 _
  have hval : ∀ (j : Nat) t v, Try.f3.params[j]? = some t → args[j]? = some v → Value.okWide Try.prog W .any base t v := hval0
  have hW' := hW
  obtain ⟨p, q, hA0, hV, rfl, hfz, hnd⟩ := hW
  have hA : DataW.TrodAll enc Try.prog W 0 (fun _ => true) true Try.f3.params.toList args.toList ds p := hA0
  rw [Try.params3] at hA hval
  obtain ⟨v0, vs0, d0, ds0, p0, q0, hargs, rfl, rfl, g0, r0⟩ := trodAll_cons hA
  obtain ⟨v1, vs1, d1, ds1, p1, q1, rfl, rfl, rfl, g1, r1⟩ := trodAll_cons r0
  obtain ⟨rfl, rfl, rfl⟩ := trodAll_nil r1
  obtain rfl : args = #[v0, v1] := by cases args; simp_all
  obtain ⟨rfl, rfl⟩ := trodVars_none hV
  have kk0 := g0
  have lt0 : ∀ x ∈ p0, x.block < W.heap.size := by obtain ⟨m, hm⟩ := kk0; exact DataW.trod_lt m _ _ _ hm
  have ok0 := (hval 0 24 v0 rfl rfl)
  simp only [Value.okWide, Try.underlying24] at ok0
  obtain ⟨cs0, rfl, _, _⟩ := ok0
  obtain ⟨fuel0, tr0⟩ := g0
  obtain ⟨x0, rd0, h0⟩ := (opens24) _ _ _ _ _ _ (show DataW.trod enc Try.prog W 0 (fun _ => true) true fuel0 24 cs0.toList = some (d0, p0) from tr0)
  have kk1 := g1
  have lt1 : ∀ x ∈ p1, x.block < W.heap.size := by obtain ⟨m, hm⟩ := kk1; exact DataW.trod_lt m _ _ _ hm
  have ok1 := (hval 1 26 v1 rfl rfl)
  simp only [Value.okWide, Try.underlying26] at ok1
  obtain ⟨cs1, rfl, _, _⟩ := ok1
  obtain ⟨fuel1, tr1⟩ := g1
  obtain ⟨x1, rd1, h1⟩ := (opens26) _ _ _ _ _ _ (show DataW.trod enc Try.prog W 0 (fun _ => true) true fuel1 26 cs1.toList = some (d1, p1) from tr1)
  clear hA0 hval0 hsz0
  refine (Go.AM.law_calls (fn := Try.f3) (by kernel_rfl) (by decide) rfl (law_FnExactFeed x0 h0 x1 h1) (Go.AM.argL_cons (Go.AM.arg_agg (opens24_1 x0) rd0) (Go.AM.argL_cons (Go.AM.arg_agg (opens26_1 x1) rd1) Go.AM.argL_nil))).mono fun e W' ⟨he, bel⟩ => ?_
  subst he
  exact ⟨_, rfl, _, _, _, [], _, [], hW', trodAll_mk1 (shut_bool Try.underlying4 _), (trodAll_cons_mk (Below.trod laidOut (by kernel_rfl) (of_decide_eq_true (by kernel_rfl)) kk0 bel lt0) (trodAll_cons_mk (Below.trod laidOut (by kernel_rfl) (of_decide_eq_true (by kernel_rfl)) kk1 bel lt1) trodAll_mk0)), rfl, bel.frame _, fun h => by cases h⟩
theorem over : Rows.fnExactFeedRow.holds Try.pinned (OpenSpec.ofChange Rows.fnExactFeedSpec) :=
  OpenClaim.holds_of_wide 3 Try.f3 rfl rfl rfl rfl rfl rfl rfl ⟨rfl, rfl, rfl, rfl, rfl⟩ rfl rfl rfl rfl rfl (by kernel_rfl) Try.func3 (by kernel_rfl)
    (of_decide_eq_true (by kernel_rfl)) (by unfold Func.isWrapper; first | (rw [if_pos (by decide +kernel)]; kernel_rfl) | (rw [if_neg (by decide +kernel)]; exact ⟨rfl, rfl⟩))
    (fun os started H enc _ => lifted os started H enc)
theorem proved : Rows.FnExactFeedSaid := over
#print axioms proved
end Go.Proofs.Ytmckbfmadgfddaa.fnExactFeed
namespace Go.Proofs.Ytmckbfmadgfddaa
/-- The row, under a short name, for the claim. -/
theorem fnExactFeed_holds : Rows.FnExactFeedSaid := fnExactFeed.proved
end Go.Proofs.Ytmckbfmadgfddaa
