/- Contracts of functions of the translation, each with its pure function; printed by a program of this session (wip/pr.py) over the kit's print; no condition of its own. -/
import Derived.Test.YtjbecmaibifmlaaQFnStreamsx0
import Derived.Test.YtjbecmaibifmlaaQFnStreamsx2
import Derived.Test.YtjbecmaibifmlaaQFnStreamsx3
namespace Go.Proofs.Ytjbecmaibifmlaa.QFnStreams
open Go.RowKit Go.Proofs.YtjbecmaibifmlaaW.PrintWords Go.Proofs.YtjbecmaibifmlaaW.PrintLast Go.Proofs.YtjbecmaibifmlaaW.PrintMore
attribute [local go_sem] max2_int min2_int max_two min_two max_three min_three max_four min_four   -- for this text's walks alone
set_option linter.unusedVariables false
set_option linter.unusedSimpArgs false

/-! ### spec_DrawStreamStep: function 21 -/
def spec_DrawStreamStep.f (k : Nat) (l0 : List Int) : Option (Int × Int) := (spec_l1New.f k l0).bind fun bt146 => ((spec_l1Int.f bt146.1 bt146.2.1 bt146.2.2 (([0, 1, 2, 3, 4, 5, (-1), 1, 2, 3] : List Int))).bind fun bt153 => ((spec_l1Below.f bt146.1 bt153.2.1 bt153.2.2 12).bind fun bt156 => (some (bt153.1, bt156.1))))
theorem spec_DrawStreamStep.mono : ∀ a0 k, LeO (spec_DrawStreamStep.f k a0) (spec_DrawStreamStep.f (k + 1) a0) := by
  intro a0 k
  unfold spec_DrawStreamStep.f
  repeat' first
      | (with_reducible exact spec_l1New.mono _ _)
      | (with_reducible exact LeO.refl _)
      | (with_reducible exact LeO.none _)
      | (with_reducible refine LeO.ite ?_ ?_)
      | (with_reducible refine LeO.bind ?_ (fun _ => ?_))
      | exact spec_l1New.mono _ _
      | exact LeO.none _
      | refine LeO.ite ?_ ?_
      | refine LeO.bind ?_ (fun _ => ?_)
set_option maxHeartbeats 8000000 in
set_option maxRecDepth 100000 in
theorem spec_DrawStreamStep.calls (k : Nat) (A0 : Option Addr) (c0 : Nat) (l0 : List Int) (r1 : Int) (r2 : Int) (w : World) (hr0 : Kd.C (Kd.int .u8) w A0 l0.length l0) (hc0 : l0.length ≤ c0) (h : spec_DrawStreamStep.f k l0 = some (r1, r2)) :
    Calls Try.prog 21 #[.slice A0 l0.length c0] w fun e w' => e = .returned (.tuple #[.int .i64 r1, .int .i64 r2]) ∧ Below w.heap.size w w' := by
  have HR0 := Aside0.mk hr0
  have HC0 := Aside0.mk hc0
  clear hr0 hc0
  have HB := Aside0.mk (Below.refl w.heap.size w)
  have H : ((spec_l1New.f k l0).bind fun bt146 => ((spec_l1Int.f bt146.1 bt146.2.1 bt146.2.2 (([0, 1, 2, 3, 4, 5, (-1), 1, 2, 3] : List Int))).bind fun bt153 => ((spec_l1Below.f bt146.1 bt153.2.1 bt153.2.2 12).bind fun bt156 => (some (bt153.1, bt156.1))))) = some (r1, r2) := h
  clear h
  replace H := Option.bind_eq_some_iff.mp H
  obtain ⟨⟨t146, t147, t148⟩, A20, H⟩ := H
  replace H : ((spec_l1Int.f t146 t147 t148 (([0, 1, 2, 3, 4, 5, (-1), 1, 2, 3] : List Int))).bind fun bt153 => ((spec_l1Below.f t146 bt153.2.1 bt153.2.2 12).bind fun bt156 => (some (bt153.1, bt156.1)))) = some (r1, r2) := H
  have A2 := Aside0.mk A20
  clear A20
  obtain ⟨y150, hy150⟩ : ∃ y_ : List Int, y_ = (([0, 1, 2, 3, 4, 5, (-1), 1, 2, 3] : List Int)) := ⟨_, rfl⟩
  replace H : ((spec_l1Int.f t146 t147 t148 y150).bind fun bt153 => ((spec_l1Below.f t146 bt153.2.1 bt153.2.2 12).bind fun bt156 => (some (bt153.1, bt156.1)))) = some (r1, r2) := by first | (rw [hy150]; with_reducible exact H) | (have H2_ := (Option.bind_some _ _).symm.trans H; rw [hy150]; with_reducible exact H2_) | (have H2_ := (Option.bind_some _ _).symm.trans H; with_reducible exact H2_) | with_reducible exact H | (rw [hy150]; exact H) | exact H
  have Ny150 := Aside0.mk hy150
  clear hy150
  replace H := Option.bind_eq_some_iff.mp H
  obtain ⟨⟨t153, t154, t155⟩, A30, H⟩ := H
  replace H : ((spec_l1Below.f t146 t154 t155 12).bind fun bt156 => (some (t153, bt156.1))) = some (r1, r2) := H
  have A3 := Aside0.mk A30
  clear A30
  replace H := Option.bind_eq_some_iff.mp H
  obtain ⟨⟨t156, t157, t158⟩, A40, H⟩ := H
  replace H : (some (t153, t156)) = some (r1, r2) := H
  have A4 := Aside0.mk A40
  clear A40
  simp only [Option.some.injEq, Prod.mk.injEq] at H
  obtain ⟨rfl, rfl⟩ := H
  go_enter Try.func21, Try.ntmps21
  go_wp2_with (first | ((with_reducible refine gate_callee (f := 50) rfl ?_); refine goesL_ (some 6) rfl rfl Try.func50 (by kernel_rfl) rfl #[.slice A0 l0.length c0] rfl (by (try simp only [List.map_toArray, List.map_cons, List.map_nil]); first | done | rfl | (simp only [List.length_drop, List.length_take]; rfl)) ?_; (with_reducible refine (spec_l1New.calls k _ _ l0 t146 t147 t148 w _ ?side1 ?side2 ?side3 A2.out).mono ?_); (case side1 => repeat (first | (with_reducible first | exact HB.out | apply below_alloc | apply pw_below_drewN | apply below_drew1) | exact HB.out)); (case side2 => exact HR0.out); (case side3 => exact HC0.out); rintro e w5 ⟨g149, rfl, hi, hb, hb2⟩; refine ⟨_, rfl, ?_⟩; have n0_ := Aside0.mk (hb); have n1_ := Aside0.mk (hi); clear HB; have HB := n0_; have HI149 := n1_; clear n0_ n1_; (try clear hb); (try clear hb2); (try clear hk); (try clear hi)) | ((with_reducible refine gate_dst (N := 8) rfl ?_); refine Kd.R_lit (Kd.int .i64) _ 3 ?hg (N := 8) ?hd (xs := ([0, 1, 2, 3, 4, 5, (-1), 1, 2, 3] : List Int)) (inner := [.int .i64 0, .int .i64 1, .int .i64 2, .int .i64 3, .int .i64 4, .int .i64 5, .int .i64 (-1), .int .i64 1, .int .i64 2, .int .i64 3]) (ok := fun _ => True) (okp := fun _ => True) ?hr ?hp (fun _ hk => hk) trivial (Below.refl _ _) (Nat.le_refl _) (by simp) ?_; (case hd => rfl); (case hg => rfl); (case hr => first | (go_simp; done) | (go_simp; rfl)); (case hp => exact (Reps.one (show Kd.M (Kd.int .i64) _ _ _ 0 [.int .i64 0] from rfl) (Reps.one (show Kd.M (Kd.int .i64) _ _ _ 1 [.int .i64 1] from rfl) (Reps.one (show Kd.M (Kd.int .i64) _ _ _ 2 [.int .i64 2] from rfl) (Reps.one (show Kd.M (Kd.int .i64) _ _ _ 3 [.int .i64 3] from rfl) (Reps.one (show Kd.M (Kd.int .i64) _ _ _ 4 [.int .i64 4] from rfl) (Reps.one (show Kd.M (Kd.int .i64) _ _ _ 5 [.int .i64 5] from rfl) (Reps.one (show Kd.M (Kd.int .i64) _ _ _ (-1) [.int .i64 (-1)] from rfl) (Reps.one (show Kd.M (Kd.int .i64) _ _ _ 1 [.int .i64 1] from rfl) (Reps.one (show Kd.M (Kd.int .i64) _ _ _ 2 [.int .i64 2] from rfl) (Reps.one (show Kd.M (Kd.int .i64) _ _ _ 3 [.int .i64 3] from rfl) (Reps.none _ _)))))))))))); intro v151 w6 ho7 hb hg_ hnew_; clear hg_ hnew_; (first | rw [← Ny150.out] at ho7 | (simp only [Int.reduceToNat] at ho7; rw [← Ny150.out] at ho7)); have n0_ := Aside0.mk (Kd.R_lower ho7 (below_size (by repeat (first | (with_reducible first | exact HB.out | apply below_alloc | apply pw_below_drewN | apply below_drew1 | refine below_set ?_ (IsS75.ge HI149.out)) | exact HB.out)))); have n1_ := Aside0.mk (IsS75.below (by repeat (first | (with_reducible first | exact HI149.out | apply IsS75.alloc | apply IsS75.drewN | apply IsS75.drew | apply IsS75.set_1 | apply IsS75.set_2) | exact HI149.out)) hb); have n2_ := Aside0.mk (below_step (by repeat (first | (with_reducible first | exact HB.out | apply below_alloc | apply pw_below_drewN | apply below_drew1 | refine below_set ?_ (IsS75.ge HI149.out)) | exact HB.out)) hb); clear HI149; clear HB; have HO152 := n0_; have HI149 := n1_; have HB := n2_; clear n0_ n1_ n2_; clear hb ho7; obtain ⟨Ao8, co8, eo8⟩ := Kd.R_slice HO152.out; subst eo8) | ((with_reducible refine gate_callee (f := 51) rfl ?_); refine goesL_ (some 9) rfl rfl Try.func51 (by kernel_rfl) rfl #[.pointer (some ⟨g149, 0, none⟩), .slice Ao8 y150.length co8] rfl (by (try simp only [List.map_toArray, List.map_cons, List.map_nil]); first | done | rfl | (simp only [List.length_drop, List.length_take]; rfl)) ?_; (with_reducible refine (spec_l1Int.calls g149 t146 t147 t148 _ _ y150 t153 t154 t155 w _ ?side1 ?side2 ?side3 ?side4 ?side5 A3.out).mono ?_); (case side1 => repeat (first | (with_reducible first | exact HI149.out | apply IsS75.alloc | apply IsS75.drewN | apply IsS75.drew | apply IsS75.set_1 | apply IsS75.set_2) | exact HI149.out)); (case side2 => repeat (first | (with_reducible first | exact HB.out | apply below_alloc | apply pw_below_drewN | apply below_drew1 | refine below_set ?_ (IsS75.ge HI149.out)) | exact HB.out)); (case side3 => repeat (first | exact (Kd.R_reads' HO152.out).2.2 | (with_reducible refine Kd.C_alloc ?_ _) | (with_reducible refine Kd.C_drewN ?_ _) | (with_reducible refine Kd.C_drew ?_))); (case side4 => exact (Kd.R_reads' HO152.out).2.1); (case side5 => exact far_slice (IsS75.own_ne HI149.out HO152.out (by decide))); rintro e w9 ⟨rfl, hi, hb, hk⟩; refine ⟨_, rfl, ?_⟩; have n0_ := Aside0.mk (Kd.R_mono (Kd.R_keep (IsS75.apart (show IsS75 w _ g149 t146 t147 t148 from by repeat (first | (with_reducible first | exact HI149.out | apply IsS75.alloc | apply IsS75.drewN | apply IsS75.drew | apply IsS75.set_1 | apply IsS75.set_2) | exact HI149.out)) (by (with_reducible repeat (first | apply Kd.R_alloc | apply Kd.R_drewN | apply Kd.R_drew)); exact HO152.out) (by decide)) hk (fun _ h => h.2)) (fun _ h => h.1)); have n1_ := Aside0.mk (hb); have n2_ := Aside0.mk (hi); clear HO152; clear HB; clear HI149; have HO152 := n0_; have HB := n1_; have HI149 := n2_; clear n0_ n1_ n2_; (try clear hb); (try clear hb2); (try clear hk); (try clear hi)) | ((with_reducible refine gate_callee (f := 52) rfl ?_); refine goesL_ (some 11) rfl rfl Try.func52 (by kernel_rfl) rfl #[.pointer (some ⟨g149, 0, none⟩), .int .i64 12] rfl (by (try simp only [List.map_toArray, List.map_cons, List.map_nil]); first | done | rfl | (simp only [List.length_drop, List.length_take]; rfl)) ?_; (with_reducible refine (spec_l1Below.calls g149 t146 t154 t155 12 t156 t157 t158 w _ ?side1 ?side2 A4.out).mono ?_); (case side1 => repeat (first | (with_reducible first | exact HI149.out | apply IsS75.alloc | apply IsS75.drewN | apply IsS75.drew | apply IsS75.set_1 | apply IsS75.set_2) | exact HI149.out)); (case side2 => repeat (first | (with_reducible first | exact HB.out | apply below_alloc | apply pw_below_drewN | apply below_drew1 | refine below_set ?_ (IsS75.ge HI149.out)) | exact HB.out)); rintro e w10 ⟨rfl, hi, hb, hk⟩; refine ⟨_, rfl, ?_⟩; have n0_ := Aside0.mk (Kd.R_mono (Kd.R_keep (IsS75.apart (show IsS75 w _ g149 t146 t154 t155 from by repeat (first | (with_reducible first | exact HI149.out | apply IsS75.alloc | apply IsS75.drewN | apply IsS75.drew | apply IsS75.set_1 | apply IsS75.set_2) | exact HI149.out)) (by (with_reducible repeat (first | apply Kd.R_alloc | apply Kd.R_drewN | apply Kd.R_drew)); exact HO152.out) (by decide)) hk (fun _ h => h.2)) (fun _ h => h.1)); have n1_ := Aside0.mk (hb); have n2_ := Aside0.mk (hi); clear HO152; clear HB; clear HI149; have HO152 := n0_; have HB := n1_; have HI149 := n2_; clear n0_ n1_ n2_; (try clear hb); (try clear hb2); (try clear hk); (try clear hi)))
  go_ret2
  exact ⟨by first | rfl | (simp [errW_none, errW_some] <;> rfl) | (simp [*, errW_none, errW_some] <;> rfl), by repeat (first | (with_reducible first | exact HB.out | apply below_alloc | apply pw_below_drewN | apply below_drew1 | refine below_set ?_ (IsS75.ge HI149.out)) | exact HB.out)⟩

/-! ### spec_DrawStreamRun: function 22 -/
def spec_DrawStreamRun.l0 : Nat → List Int → Int → List Int → Int → Int → Option (List Int)
  | 0, _, _, _, _, _ => none
  | k + 1, x4, x5, x163000, x163001, x163002 => if x5 > 0 then ((spec_l1Int.f x163000 x163001 x163002 (([3, 8, 4, 9, 2, 7, 5, 10, 1, 0] : List Int))).bind fun bt178 => (if x4.length < 17592186044416 then (spec_DrawStreamRun.l0 k (x4 ++ [bt178.1]) (wrap64 (x5 - 1)) x163000 bt178.2.1 bt178.2.2) else (none))) else (some x4)
def spec_DrawStreamRun.f (k : Nat) (l0 : List Int) : Option (List Int) := (spec_l1New.f k l0).bind fun bt159 => ((spec_l1Int.f bt159.1 bt159.2.1 bt159.2.2 (([1, 2, 6, 7, 3] : List Int))).bind fun bt166 => ((spec_l1Below.f bt159.1 bt166.2.1 bt166.2.2 6).bind fun bt172 => (spec_DrawStreamRun.l0 k (([bt166.1] : List Int)) bt172.1 bt159.1 bt172.2.1 bt172.2.2)))
theorem spec_DrawStreamRun.mono_l : ∀ k, (∀ y0 y1 y2 y3 y4, LeO (spec_DrawStreamRun.l0 k y0 y1 y2 y3 y4) (spec_DrawStreamRun.l0 (k + 1) y0 y1 y2 y3 y4))
  | 0 => fun _ _ _ _ _ r h => by simp [spec_DrawStreamRun.l0] at h
  | k + 1 => by
    have ih0 := spec_DrawStreamRun.mono_l k
    · intro y0 y1 y2 y3 y4
      unfold spec_DrawStreamRun.l0
      repeat' first
      | (with_reducible exact ih0 _ _ _ _ _)
      | (with_reducible exact spec_l1New.mono _ _)
      | (with_reducible exact LeO.refl _)
      | (with_reducible exact LeO.none _)
      | (with_reducible refine LeO.ite ?_ ?_)
      | (with_reducible refine LeO.bind ?_ (fun _ => ?_))
      | exact ih0 _ _ _ _ _
      | exact spec_l1New.mono _ _
      | exact LeO.none _
      | refine LeO.ite ?_ ?_
      | refine LeO.bind ?_ (fun _ => ?_)
theorem spec_DrawStreamRun.mono : ∀ a0 k, LeO (spec_DrawStreamRun.f k a0) (spec_DrawStreamRun.f (k + 1) a0) := by
  intro a0 k
  have ih0 := spec_DrawStreamRun.mono_l k
  unfold spec_DrawStreamRun.f
  repeat' first
      | (with_reducible exact ih0 _ _ _ _ _)
      | (with_reducible exact spec_l1New.mono _ _)
      | (with_reducible exact LeO.refl _)
      | (with_reducible exact LeO.none _)
      | (with_reducible refine LeO.ite ?_ ?_)
      | (with_reducible refine LeO.bind ?_ (fun _ => ?_))
      | exact ih0 _ _ _ _ _
      | exact spec_l1New.mono _ _
      | exact LeO.none _
      | refine LeO.ite ?_ ?_
      | refine LeO.bind ?_ (fun _ => ?_)
set_option maxHeartbeats 8000000 in
set_option maxRecDepth 100000 in
theorem spec_DrawStreamRun.calls (k : Nat) (A0 : Option Addr) (c0 : Nat) (l0 : List Int) (r : List Int) (w : World) (hr0 : Kd.C (Kd.int .u8) w A0 l0.length l0) (hc0 : l0.length ≤ c0) (h : spec_DrawStreamRun.f k l0 = some r) :
    Calls Try.prog 22 #[.slice A0 l0.length c0] w fun e w' => ∃ v0_ : Value, e = .returned (v0_) ∧ Kd.R (Kd.int .i64) 3 w' w.heap.size (fun _ => True) v0_ r ∧ Below w.heap.size w w' := by
  have HR0 := Aside0.mk hr0
  have HC0 := Aside0.mk hc0
  clear hr0 hc0
  have HB := Aside0.mk (Below.refl w.heap.size w)
  have H : ((spec_l1New.f k l0).bind fun bt159 => ((spec_l1Int.f bt159.1 bt159.2.1 bt159.2.2 (([1, 2, 6, 7, 3] : List Int))).bind fun bt166 => ((spec_l1Below.f bt159.1 bt166.2.1 bt166.2.2 6).bind fun bt172 => (spec_DrawStreamRun.l0 k (([bt166.1] : List Int)) bt172.1 bt159.1 bt172.2.1 bt172.2.2)))) = some r := h
  clear h
  replace H := Option.bind_eq_some_iff.mp H
  obtain ⟨⟨t159, t160, t161⟩, A20, H⟩ := H
  replace H : ((spec_l1Int.f t159 t160 t161 (([1, 2, 6, 7, 3] : List Int))).bind fun bt166 => ((spec_l1Below.f t159 bt166.2.1 bt166.2.2 6).bind fun bt172 => (spec_DrawStreamRun.l0 k (([bt166.1] : List Int)) bt172.1 t159 bt172.2.1 bt172.2.2))) = some r := H
  have A2 := Aside0.mk A20
  clear A20
  obtain ⟨y163, hy163⟩ : ∃ y_ : List Int, y_ = (([1, 2, 6, 7, 3] : List Int)) := ⟨_, rfl⟩
  replace H : ((spec_l1Int.f t159 t160 t161 y163).bind fun bt166 => ((spec_l1Below.f t159 bt166.2.1 bt166.2.2 6).bind fun bt172 => (spec_DrawStreamRun.l0 k (([bt166.1] : List Int)) bt172.1 t159 bt172.2.1 bt172.2.2))) = some r := by first | (rw [hy163]; with_reducible exact H) | (have H2_ := (Option.bind_some _ _).symm.trans H; rw [hy163]; with_reducible exact H2_) | (have H2_ := (Option.bind_some _ _).symm.trans H; with_reducible exact H2_) | with_reducible exact H | (rw [hy163]; exact H) | exact H
  have Ny163 := Aside0.mk hy163
  clear hy163
  replace H := Option.bind_eq_some_iff.mp H
  obtain ⟨⟨t166, t167, t168⟩, A30, H⟩ := H
  replace H : ((spec_l1Below.f t159 t167 t168 6).bind fun bt172 => (spec_DrawStreamRun.l0 k (([t166] : List Int)) bt172.1 t159 bt172.2.1 bt172.2.2)) = some r := H
  have A3 := Aside0.mk A30
  clear A30
  obtain ⟨y169, hy169⟩ : ∃ y_ : List Int, y_ = (([t166] : List Int)) := ⟨_, rfl⟩
  replace H : ((spec_l1Below.f t159 t167 t168 6).bind fun bt172 => (spec_DrawStreamRun.l0 k y169 bt172.1 t159 bt172.2.1 bt172.2.2)) = some r := by first | (rw [hy169]; with_reducible exact H) | (have H2_ := (Option.bind_some _ _).symm.trans H; rw [hy169]; with_reducible exact H2_) | (have H2_ := (Option.bind_some _ _).symm.trans H; with_reducible exact H2_) | with_reducible exact H | (rw [hy169]; exact H) | exact H
  have Ny169 := Aside0.mk hy169
  clear hy169
  replace H := Option.bind_eq_some_iff.mp H
  obtain ⟨⟨t172, t173, t174⟩, A40, H⟩ := H
  replace H : (spec_DrawStreamRun.l0 k y169 t172 t159 t173 t174) = some r := H
  have A4 := Aside0.mk A40
  clear A40
  have H' := Aside0.mk H
  clear H
  go_enter Try.func22, Try.ntmps22
  go_wp2_with (first | ((with_reducible refine gate_callee (f := 50) rfl ?_); refine goesL_ (some 7) rfl rfl Try.func50 (by kernel_rfl) rfl #[.slice A0 l0.length c0] rfl (by (try simp only [List.map_toArray, List.map_cons, List.map_nil]); first | done | rfl | (simp only [List.length_drop, List.length_take]; rfl)) ?_; (with_reducible refine (spec_l1New.calls k _ _ l0 t159 t160 t161 w _ ?side1 ?side2 ?side3 A2.out).mono ?_); (case side1 => repeat (first | (with_reducible first | exact HB.out | apply below_alloc | apply pw_below_drewN | apply below_drew1) | exact HB.out)); (case side2 => exact HR0.out); (case side3 => exact HC0.out); rintro e w5 ⟨g162, rfl, hi, hb, hb2⟩; refine ⟨_, rfl, ?_⟩; have n0_ := Aside0.mk (hb); have n1_ := Aside0.mk (hi); clear HB; have HB := n0_; have HI162 := n1_; clear n0_ n1_; (try clear hb); (try clear hb2); (try clear hk); (try clear hi)) | ((with_reducible refine gate_dst (N := 9) rfl ?_); refine Kd.R_lit (Kd.int .i64) _ 3 ?hg (N := 9) ?hd (xs := ([1, 2, 6, 7, 3] : List Int)) (inner := [.int .i64 1, .int .i64 2, .int .i64 6, .int .i64 7, .int .i64 3]) (ok := fun _ => True) (okp := fun _ => True) ?hr ?hp (fun _ hk => hk) trivial (Below.refl _ _) (Nat.le_refl _) (by simp) ?_; (case hd => rfl); (case hg => rfl); (case hr => first | (go_simp; done) | (go_simp; rfl)); (case hp => exact (Reps.one (show Kd.M (Kd.int .i64) _ _ _ 1 [.int .i64 1] from rfl) (Reps.one (show Kd.M (Kd.int .i64) _ _ _ 2 [.int .i64 2] from rfl) (Reps.one (show Kd.M (Kd.int .i64) _ _ _ 6 [.int .i64 6] from rfl) (Reps.one (show Kd.M (Kd.int .i64) _ _ _ 7 [.int .i64 7] from rfl) (Reps.one (show Kd.M (Kd.int .i64) _ _ _ 3 [.int .i64 3] from rfl) (Reps.none _ _))))))); intro v164 w6 ho7 hb hg_ hnew_; clear hg_ hnew_; (first | rw [← Ny163.out] at ho7 | (simp only [Int.reduceToNat] at ho7; rw [← Ny163.out] at ho7)); have n0_ := Aside0.mk (Kd.R_lower ho7 (below_size (by repeat (first | (with_reducible first | exact HB.out | apply below_alloc | apply pw_below_drewN | apply below_drew1 | refine below_set ?_ (IsS75.ge HI162.out)) | exact HB.out)))); have n1_ := Aside0.mk (IsS75.below (by repeat (first | (with_reducible first | exact HI162.out | apply IsS75.alloc | apply IsS75.drewN | apply IsS75.drew | apply IsS75.set_1 | apply IsS75.set_2) | exact HI162.out)) hb); have n2_ := Aside0.mk (below_step (by repeat (first | (with_reducible first | exact HB.out | apply below_alloc | apply pw_below_drewN | apply below_drew1 | refine below_set ?_ (IsS75.ge HI162.out)) | exact HB.out)) hb); clear HI162; clear HB; have HO165 := n0_; have HI162 := n1_; have HB := n2_; clear n0_ n1_ n2_; clear hb ho7; obtain ⟨Ao8, co8, eo8⟩ := Kd.R_slice HO165.out; subst eo8) | ((with_reducible refine gate_callee (f := 51) rfl ?_); refine goesL_ (some 10) rfl rfl Try.func51 (by kernel_rfl) rfl #[.pointer (some ⟨g162, 0, none⟩), .slice Ao8 y163.length co8] rfl (by (try simp only [List.map_toArray, List.map_cons, List.map_nil]); first | done | rfl | (simp only [List.length_drop, List.length_take]; rfl)) ?_; (with_reducible refine (spec_l1Int.calls g162 t159 t160 t161 _ _ y163 t166 t167 t168 w _ ?side1 ?side2 ?side3 ?side4 ?side5 A3.out).mono ?_); (case side1 => repeat (first | (with_reducible first | exact HI162.out | apply IsS75.alloc | apply IsS75.drewN | apply IsS75.drew | apply IsS75.set_1 | apply IsS75.set_2) | exact HI162.out)); (case side2 => repeat (first | (with_reducible first | exact HB.out | apply below_alloc | apply pw_below_drewN | apply below_drew1 | refine below_set ?_ (IsS75.ge HI162.out)) | exact HB.out)); (case side3 => repeat (first | exact (Kd.R_reads' HO165.out).2.2 | (with_reducible refine Kd.C_alloc ?_ _) | (with_reducible refine Kd.C_drewN ?_ _) | (with_reducible refine Kd.C_drew ?_))); (case side4 => exact (Kd.R_reads' HO165.out).2.1); (case side5 => exact far_slice (IsS75.own_ne HI162.out HO165.out (by decide))); rintro e w9 ⟨rfl, hi, hb, hk⟩; refine ⟨_, rfl, ?_⟩; have n0_ := Aside0.mk (Kd.R_mono (Kd.R_keep (IsS75.apart (show IsS75 w _ g162 t159 t160 t161 from by repeat (first | (with_reducible first | exact HI162.out | apply IsS75.alloc | apply IsS75.drewN | apply IsS75.drew | apply IsS75.set_1 | apply IsS75.set_2) | exact HI162.out)) (by (with_reducible repeat (first | apply Kd.R_alloc | apply Kd.R_drewN | apply Kd.R_drew)); exact HO165.out) (by decide)) hk (fun _ h => h.2)) (fun _ h => h.1)); have n1_ := Aside0.mk (hb); have n2_ := Aside0.mk (hi); clear HO165; clear HB; clear HI162; have HO165 := n0_; have HB := n1_; have HI162 := n2_; clear n0_ n1_ n2_; (try clear hb); (try clear hb2); (try clear hk); (try clear hi)) | ((with_reducible refine gate_dst (N := 11) rfl ?_); refine Kd.R_lit (Kd.int .i64) _ 3 ?hg (N := 11) ?hd (xs := ([t166] : List Int)) (inner := [.int .i64 t166]) (ok := fun _ => True) (okp := fun _ => True) ?hr ?hp (fun _ hk => hk) trivial (Below.refl _ _) (Nat.le_refl _) (by simp) ?_; (case hd => rfl); (case hg => rfl); (case hr => first | (go_simp; done) | (go_simp; rfl)); (case hp => exact (Reps.one (show Kd.M (Kd.int .i64) _ _ _ t166 [.int .i64 t166] from rfl) (Reps.none _ _))); intro v170 w10 ho11 hb hg_ hnew_; clear hg_ hnew_; (first | rw [← Ny169.out] at ho11 | (simp only [Int.reduceToNat] at ho11; rw [← Ny169.out] at ho11)); have n0_ := Aside0.mk (Kd.R_elder' (by (with_reducible repeat (first | apply Kd.R_alloc | apply Kd.R_drewN | apply Kd.R_drew)); exact HO165.out) (Kd.R_base ho11) hb); have n1_ := Aside0.mk (Kd.R_lower (Kd.R_new' ho11 (Kd.R_lt (by (with_reducible repeat (first | apply Kd.R_alloc | apply Kd.R_drewN | apply Kd.R_drew)); exact HO165.out))) (below_size (by repeat (first | (with_reducible first | exact HB.out | apply below_alloc | apply pw_below_drewN | apply below_drew1 | refine below_set ?_ (IsS75.ge HI162.out)) | exact HB.out)))); have n2_ := Aside0.mk (IsS75.below (by repeat (first | (with_reducible first | exact HI162.out | apply IsS75.alloc | apply IsS75.drewN | apply IsS75.drew | apply IsS75.set_1 | apply IsS75.set_2) | exact HI162.out)) hb); have n3_ := Aside0.mk (below_step (by repeat (first | (with_reducible first | exact HB.out | apply below_alloc | apply pw_below_drewN | apply below_drew1 | refine below_set ?_ (IsS75.ge HI162.out)) | exact HB.out)) hb); clear HO165; clear HI162; clear HB; have HO165 := n0_; have HO171 := n1_; have HI162 := n2_; have HB := n3_; clear n0_ n1_ n2_ n3_; clear hb ho11) | ((with_reducible refine gate_callee (f := 52) rfl ?_); refine goesL_ (some 13) rfl rfl Try.func52 (by kernel_rfl) rfl #[.pointer (some ⟨g162, 0, none⟩), .int .i64 6] rfl (by (try simp only [List.map_toArray, List.map_cons, List.map_nil]); first | done | rfl | (simp only [List.length_drop, List.length_take]; rfl)) ?_; (with_reducible refine (spec_l1Below.calls g162 t159 t167 t168 6 t172 t173 t174 w _ ?side1 ?side2 A4.out).mono ?_); (case side1 => repeat (first | (with_reducible first | exact HI162.out | apply IsS75.alloc | apply IsS75.drewN | apply IsS75.drew | apply IsS75.set_1 | apply IsS75.set_2) | exact HI162.out)); (case side2 => repeat (first | (with_reducible first | exact HB.out | apply below_alloc | apply pw_below_drewN | apply below_drew1 | refine below_set ?_ (IsS75.ge HI162.out)) | exact HB.out)); rintro e w12 ⟨rfl, hi, hb, hk⟩; refine ⟨_, rfl, ?_⟩; have n0_ := Aside0.mk (Kd.R_mono (Kd.R_keep (IsS75.apart (show IsS75 w _ g162 t159 t167 t168 from by repeat (first | (with_reducible first | exact HI162.out | apply IsS75.alloc | apply IsS75.drewN | apply IsS75.drew | apply IsS75.set_1 | apply IsS75.set_2) | exact HI162.out)) (by (with_reducible repeat (first | apply Kd.R_alloc | apply Kd.R_drewN | apply Kd.R_drew)); exact HO165.out) (by decide)) hk (fun _ h => h.2)) (fun _ h => h.1)); have n1_ := Aside0.mk (Kd.R_mono (Kd.R_keep (IsS75.apart (show IsS75 w _ g162 t159 t167 t168 from by repeat (first | (with_reducible first | exact HI162.out | apply IsS75.alloc | apply IsS75.drewN | apply IsS75.drew | apply IsS75.set_1 | apply IsS75.set_2) | exact HI162.out)) (by (with_reducible repeat (first | apply Kd.R_alloc | apply Kd.R_drewN | apply Kd.R_drew)); exact HO171.out) (by decide)) hk (fun _ h => h.2)) (fun _ h => h.1)); have n2_ := Aside0.mk (hb); have n3_ := Aside0.mk (hi); clear HO165; clear HO171; clear HB; clear HI162; have HO165 := n0_; have HO171 := n1_; have HB := n2_; have HI162 := n3_; clear n0_ n1_ n2_ n3_; (try clear hb); (try clear hb2); (try clear hk); (try clear hi)))
  go_loopg [4, 5] k (fun kq v4 v5 w' => ∃ (x4_1 : List Int) (x5_1 : Int) (x163001_1 : Int) (x163002_1 : Int), v5 = .int .i64 x5_1 ∧ Aside0 (spec_DrawStreamRun.l0 kq x4_1 x5_1 t159 x163001_1 x163002_1 = some r) ∧ Aside0 (kq ≤ k) ∧ Aside0 (Kd.R (Kd.int .i64) 3 w' w.heap.size (fun _ => True) v4 x4_1) ∧ Aside0 (IsS75 w w' g162 t159 x163001_1 x163002_1) ∧ Aside0 (Below w.heap.size w w'))
  case atStart => exact ⟨(y169), (t172), (t173), (t174), (by first | rfl | (simp; done) | (simp [*]; done)), H', ⟨Nat.le_refl _⟩, ⟨by (with_reducible repeat (first | apply Kd.R_alloc | apply Kd.R_drewN | apply Kd.R_drew)); exact Kd.R_mono HO171.out (fun _ hk => trivial)⟩, ⟨by repeat (first | (with_reducible first | exact HI162.out | apply IsS75.alloc | apply IsS75.drewN | apply IsS75.drew | apply IsS75.set_1 | apply IsS75.set_2) | exact HI162.out)⟩, ⟨by repeat (first | (with_reducible first | exact HB.out | apply below_alloc | apply pw_below_drewN | apply below_drew1 | refine below_set ?_ (IsS75.ge HI162.out)) | exact HB.out)⟩⟩
  case round =>
    clear H'
    try clear c2
    try clear p2
    try clear c5
    obtain ⟨x4_1, x5_1, x163001_1, x163002_1, rfl, HA, HK1, HO_4, HI162, HB⟩ := hrel
    cases gk with
    | zero => exact absurd HA.out (by simp [spec_DrawStreamRun.l0])
    | succ k1 =>
      have H := HA.out
      clear HA
      simp only [spec_DrawStreamRun.l0] at H
      by_cases c13 : x5_1 > 0
      · rw [if_pos c13] at H
        have c13b0 : decide (0 < x5_1) = true := decide_eq_true c13
        clear c13
        obtain ⟨y175, hy175⟩ : ∃ y_ : List Int, y_ = (([3, 8, 4, 9, 2, 7, 5, 10, 1, 0] : List Int)) := ⟨_, rfl⟩
        replace H : ((spec_l1Int.f t159 x163001_1 x163002_1 y175).bind fun bt178 => (if x4_1.length < 17592186044416 then (spec_DrawStreamRun.l0 k1 (x4_1 ++ [bt178.1]) (wrap64 (x5_1 - 1)) t159 bt178.2.1 bt178.2.2) else (none))) = some r := by first | (rw [hy175]; with_reducible exact H) | (have H2_ := (Option.bind_some _ _).symm.trans H; rw [hy175]; with_reducible exact H2_) | (have H2_ := (Option.bind_some _ _).symm.trans H; with_reducible exact H2_) | with_reducible exact H | (rw [hy175]; exact H) | exact H
        have Ny175 := Aside0.mk hy175
        clear hy175
        replace H := Option.bind_eq_some_iff.mp H
        obtain ⟨⟨t178, t179, t180⟩, A140, H⟩ := H
        replace H : (if x4_1.length < 17592186044416 then (spec_DrawStreamRun.l0 k1 (x4_1 ++ [t178]) (wrap64 (x5_1 - 1)) t159 t179 t180) else (none)) = some r := H
        have A14 := Aside0.mk A140
        clear A140
        by_cases c15 : x4_1.length < 17592186044416
        · rw [if_pos c15] at H
          have LMc15 := Aside0.mk c15
          clear c15
          obtain ⟨y181, hy181⟩ : ∃ y_ : List Int, y_ = (x4_1 ++ [t178]) := ⟨_, rfl⟩
          replace H : (spec_DrawStreamRun.l0 k1 y181 (wrap64 (x5_1 - 1)) t159 t179 t180) = some r := by first | (rw [hy181]; with_reducible exact H) | (have H2_ := (Option.bind_some _ _).symm.trans H; rw [hy181]; with_reducible exact H2_) | (have H2_ := (Option.bind_some _ _).symm.trans H; with_reducible exact H2_) | with_reducible exact H | (rw [hy181]; exact H) | exact H
          have Ny181 := Aside0.mk hy181
          clear hy181
          have H' := Aside0.mk H
          clear H
          go_wp2_with (first | ((with_reducible refine gate_dst (N := 20) rfl ?_); refine Kd.R_lit (Kd.int .i64) _ 3 ?hg (N := 20) ?hd (xs := ([3, 8, 4, 9, 2, 7, 5, 10, 1, 0] : List Int)) (inner := [.int .i64 3, .int .i64 8, .int .i64 4, .int .i64 9, .int .i64 2, .int .i64 7, .int .i64 5, .int .i64 10, .int .i64 1, .int .i64 0]) (ok := fun _ => True) (okp := fun _ => True) ?hr ?hp (fun _ hk => hk) trivial (Below.refl _ _) (Nat.le_refl _) (by simp) ?_; (case hd => rfl); (case hg => rfl); (case hr => first | (go_simp; done) | (go_simp; rfl)); (case hp => exact (Reps.one (show Kd.M (Kd.int .i64) _ _ _ 3 [.int .i64 3] from rfl) (Reps.one (show Kd.M (Kd.int .i64) _ _ _ 8 [.int .i64 8] from rfl) (Reps.one (show Kd.M (Kd.int .i64) _ _ _ 4 [.int .i64 4] from rfl) (Reps.one (show Kd.M (Kd.int .i64) _ _ _ 9 [.int .i64 9] from rfl) (Reps.one (show Kd.M (Kd.int .i64) _ _ _ 2 [.int .i64 2] from rfl) (Reps.one (show Kd.M (Kd.int .i64) _ _ _ 7 [.int .i64 7] from rfl) (Reps.one (show Kd.M (Kd.int .i64) _ _ _ 5 [.int .i64 5] from rfl) (Reps.one (show Kd.M (Kd.int .i64) _ _ _ 10 [.int .i64 10] from rfl) (Reps.one (show Kd.M (Kd.int .i64) _ _ _ 1 [.int .i64 1] from rfl) (Reps.one (show Kd.M (Kd.int .i64) _ _ _ 0 [.int .i64 0] from rfl) (Reps.none _ _)))))))))))); intro v176 w16 ho17 hb hg_ hnew_; clear hg_ hnew_; (first | rw [← Ny175.out] at ho17 | (simp only [Int.reduceToNat] at ho17; rw [← Ny175.out] at ho17)); have n0_ := Aside0.mk (Kd.R_elder' (by (with_reducible repeat (first | apply Kd.R_alloc | apply Kd.R_drewN | apply Kd.R_drew)); exact HO_4.out) (Kd.R_base ho17) hb); have n1_ := Aside0.mk (Kd.R_lower (Kd.R_new' ho17 (Kd.R_lt (by (with_reducible repeat (first | apply Kd.R_alloc | apply Kd.R_drewN | apply Kd.R_drew)); exact HO_4.out))) (below_size (by repeat (first | (with_reducible first | exact HB.out | apply below_alloc | apply pw_below_drewN | apply below_drew1 | refine below_set ?_ (IsS75.ge HI162.out)) | exact HB.out)))); have n2_ := Aside0.mk (IsS75.below (by repeat (first | (with_reducible first | exact HI162.out | apply IsS75.alloc | apply IsS75.drewN | apply IsS75.drew | apply IsS75.set_1 | apply IsS75.set_2) | exact HI162.out)) hb); have n3_ := Aside0.mk (below_step (by repeat (first | (with_reducible first | exact HB.out | apply below_alloc | apply pw_below_drewN | apply below_drew1 | refine below_set ?_ (IsS75.ge HI162.out)) | exact HB.out)) hb); clear HO_4; clear HI162; clear HB; have HO_4 := n0_; have HO177 := n1_; have HI162 := n2_; have HB := n3_; clear n0_ n1_ n2_ n3_; clear hb ho17; obtain ⟨Ao18, co18, eo18⟩ := Kd.R_slice HO177.out; subst eo18) | ((with_reducible refine gate_callee (f := 51) rfl ?_); refine goesL_ (some 21) rfl rfl Try.func51 (by kernel_rfl) rfl #[.pointer (some ⟨g162, 0, none⟩), .slice Ao18 y175.length co18] rfl (by (try simp only [List.map_toArray, List.map_cons, List.map_nil]); first | done | rfl | (simp only [List.length_drop, List.length_take]; rfl)) ?_; (with_reducible refine (spec_l1Int.calls g162 t159 x163001_1 x163002_1 _ _ y175 t178 t179 t180 w _ ?side1 ?side2 ?side3 ?side4 ?side5 A14.out).mono ?_); (case side1 => repeat (first | (with_reducible first | exact HI162.out | apply IsS75.alloc | apply IsS75.drewN | apply IsS75.drew | apply IsS75.set_1 | apply IsS75.set_2) | exact HI162.out)); (case side2 => repeat (first | (with_reducible first | exact HB.out | apply below_alloc | apply pw_below_drewN | apply below_drew1 | refine below_set ?_ (IsS75.ge HI162.out)) | exact HB.out)); (case side3 => repeat (first | exact (Kd.R_reads' HO177.out).2.2 | (with_reducible refine Kd.C_alloc ?_ _) | (with_reducible refine Kd.C_drewN ?_ _) | (with_reducible refine Kd.C_drew ?_))); (case side4 => exact (Kd.R_reads' HO177.out).2.1); (case side5 => exact far_slice (IsS75.own_ne HI162.out HO177.out (by decide))); rintro e w19 ⟨rfl, hi, hb, hk⟩; refine ⟨_, rfl, ?_⟩; have n0_ := Aside0.mk (Kd.R_mono (Kd.R_keep (IsS75.apart (show IsS75 w _ g162 t159 x163001_1 x163002_1 from by repeat (first | (with_reducible first | exact HI162.out | apply IsS75.alloc | apply IsS75.drewN | apply IsS75.drew | apply IsS75.set_1 | apply IsS75.set_2) | exact HI162.out)) (by (with_reducible repeat (first | apply Kd.R_alloc | apply Kd.R_drewN | apply Kd.R_drew)); exact HO_4.out) (by decide)) hk (fun _ h => h.2)) (fun _ h => h.1)); have n1_ := Aside0.mk (Kd.R_mono (Kd.R_keep (IsS75.apart (show IsS75 w _ g162 t159 x163001_1 x163002_1 from by repeat (first | (with_reducible first | exact HI162.out | apply IsS75.alloc | apply IsS75.drewN | apply IsS75.drew | apply IsS75.set_1 | apply IsS75.set_2) | exact HI162.out)) (by (with_reducible repeat (first | apply Kd.R_alloc | apply Kd.R_drewN | apply Kd.R_drew)); exact HO177.out) (by decide)) hk (fun _ h => h.2)) (fun _ h => h.1)); have n2_ := Aside0.mk (hb); have n3_ := Aside0.mk (hi); clear HO_4; clear HO177; clear HB; clear HI162; have HO_4 := n0_; have HO177 := n1_; have HB := n2_; have HI162 := n3_; clear n0_ n1_ n2_ n3_; (try clear hb); (try clear hb2); (try clear hk); (try clear hi)) | ((with_reducible refine gate_builtin (b := .append) (xs := #[.tmp 18, .tmp 22]) rfl ?_); at_builtin; refine Kd.R_append (Kd.int .i64) (w0 := w) w.heap.size rfl (.tmp 18) (.tmp 22) 26 3 (.int .i64 0) 8 rfl Try.underlying26 info3 rfl (by decide) (by omega) u4 x4_1 t178 [.int .i64 t178] (fun k_ => some k_ ≠ (.slice Ao18 y175.length co18 : Value).ownBlock) (fun _ => False) rfl rfl ?aP (fun _ hk => hk.elim) ?aF ?aO ?aB ?aS ?aL ?_; (case aP => exact rfl); (case aB => exact (by repeat (first | (with_reducible first | exact HB.out | apply below_alloc | apply pw_below_drewN | apply below_drew1 | refine below_set ?_ (IsS75.ge HI162.out)) | exact HB.out))); (case aF => exact (fun k_ hk => Kd.fresh' (Kd.R_lt (by (with_reducible repeat (first | apply Kd.R_alloc | apply Kd.R_drewN | apply Kd.R_drew)); exact HO177.out)) k_ hk)); (case aO => exact (by (with_reducible repeat (first | apply Kd.R_alloc | apply Kd.R_drewN | apply Kd.R_drew)); exact Kd.R_mono HO_4.out (fun _ hk => hk.2))); (case aS => exact (below_size (by repeat (first | (with_reducible first | exact HB.out | apply below_alloc | apply pw_below_drewN | apply below_drew1 | refine below_set ?_ (IsS75.ge HI162.out)) | exact HB.out)))); (case aL => have := LMc15.out; omega); intro v182 w20 ho hb hg hat; rw [← Ny181.out] at ho; have n0_ := Aside0.mk (IsS75.grown (by repeat (first | (with_reducible first | exact HI162.out | apply IsS75.alloc | apply IsS75.drewN | apply IsS75.drew | apply IsS75.set_1 | apply IsS75.set_2) | exact HI162.out)) hg (IsS75.own_ne HI162.out HO_4.out (by decide))); have n1_ := Aside0.mk (Kd.R_after (ok := (fun _ => True)) (by (with_reducible repeat (first | apply Kd.R_alloc | apply Kd.R_drewN | apply Kd.R_drew)); exact HO177.out) hg hat); have n2_ := Aside0.mk (hb); have n3_ := Aside0.mk (ho); clear HI162; clear HO177; clear HB; clear HO_4; have HI162 := n0_; have HO177 := n1_; have HB := n2_; have HO183 := n3_; clear n0_ n1_ n2_ n3_; clear ho hb hg hat))
          go_roundg k1
          case measure => have := HK1.out; omega
          case rel => exact ⟨(y181), (wrap64 (x5_1 - 1)), (t179), (t180), (by first | rfl | (simp; done) | (simp [*]; done)), H', ⟨by have := HK1.out; omega⟩, ⟨by (with_reducible repeat (first | apply Kd.R_alloc | apply Kd.R_drewN | apply Kd.R_drew)); exact Kd.R_mono HO183.out (fun _ hk => trivial)⟩, ⟨by repeat (first | (with_reducible first | exact HI162.out | apply IsS75.alloc | apply IsS75.drewN | apply IsS75.drew | apply IsS75.set_1 | apply IsS75.set_2) | exact HI162.out)⟩, ⟨by repeat (first | (with_reducible first | exact HB.out | apply below_alloc | apply pw_below_drewN | apply below_drew1 | refine below_set ?_ (IsS75.ge HI162.out)) | exact HB.out)⟩⟩
        · rw [if_neg c15] at H
          exact absurd H (by simp)
      · rw [if_neg c13] at H
        have c13b0 : decide (0 < x5_1) = false := decide_eq_false c13
        clear c13
        obtain rfl := Option.some.inj H
        go_wp2
        go_ret
        exact ⟨_, by first | rfl | (simp [errW_none, errW_some] <;> rfl) | (simp [*, errW_none, errW_some] <;> rfl), by (with_reducible repeat (first | apply Kd.R_alloc | apply Kd.R_drewN | apply Kd.R_drew)); exact HO_4.out, by repeat (first | (with_reducible first | exact HB.out | apply below_alloc | apply pw_below_drewN | apply below_drew1 | refine below_set ?_ (IsS75.ge HI162.out)) | exact HB.out)⟩

/-! ### laws_FnStreams: function 7 -/
mutual
def laws_FnStreams.j0 : Nat → List Int → Bool → Option (Bool)
  | 0, _, _ => none
  | k + 1, x0, x69 => if x69 = true then (none) else ((impl_MayPut.f k 3).bind fun t191 => (if t191 = true then (laws_FnStreams.j1 k x0 true) else ((impl_MayGet.f k 2).bind fun t192 => (if t192 = true then (laws_FnStreams.j1 k x0 true) else ((impl_MayPut.f k 4).bind fun t193 => (if t193 = true then (laws_FnStreams.j1 k x0 true) else ((impl_MayPut.f k 1).bind fun t194 => (if t194 = true then ((impl_MayGet.f k 1).bind fun t195 => (laws_FnStreams.j1 k x0 (!t195))) else (laws_FnStreams.j1 k x0 true)))))))))
def laws_FnStreams.j1 : Nat → List Int → Bool → Option (Bool)
  | 0, _, _ => none
  | k + 1, x0, x84 => if x84 = true then (none) else ((spec_DrawStreamRun.f k x0).bind fun t196 => ((impl_StreamRun.f k t196).bind fun bt199 => (laws_FnStreams.l0 k t196 bt199.1 bt199.2 0 0)))
def laws_FnStreams.l0 : Nat → List Int → Int → Int → Int → Int → Option (Bool)
  | 0, _, _, _, _, _ => none
  | k + 1, x9, x10, x11, x12, x13 => if x13 < x11 then (if 0 ≤ x13 then (if x13 < (x9.length : Int) then ((impl_StreamStep.f k x12 (rd x9 x13)).bind fun bt202 => (if bt202.2 = 0 then (laws_FnStreams.l0 k x9 x10 x11 bt202.1 (wrap64 (x13 + 1))) else (none))) else (none)) else (none)) else (if x11 < (x9.length : Int) then (if 0 ≤ x11 then ((impl_StreamStep.f k x12 (rd x9 x11)).bind fun bt205 => (if bt205.2 = 0 then (none) else (if x12 = x10 then (if x11 ≥ 0 then (some (decide (x11 ≤ (x9.length : Int)))) else (none)) else (none)))) else (none)) else (if x12 = x10 then (if x11 ≥ 0 then (some (decide (x11 ≤ (x9.length : Int)))) else (none)) else (none)))
end
def laws_FnStreams.f (k : Nat) (l0 : List Int) : Option (Bool) := (laws_big.f l0).bind fun t184 => (if t184 = true then (some true) else ((spec_DrawStreamStep.f k l0).bind fun bt185 => ((impl_StreamStep.f k bt185.1 bt185.2).bind fun bt187 => ((spec_StreamStep.f k bt185.1 bt185.2).bind fun bt189 => (if bt187.2 = bt189.2 then (if bt187.2 = 0 then (if bt185.1 = 4 then (if bt187.1 = 4 then (if bt187.1 < bt185.1 then (laws_FnStreams.j0 k l0 (bt185.1 != 3)) else (laws_FnStreams.j0 k l0 false)) else (laws_FnStreams.j0 k l0 true)) else (if bt187.1 < bt185.1 then (laws_FnStreams.j0 k l0 (bt185.1 != 3)) else (laws_FnStreams.j0 k l0 false))) else (if bt187.1 = bt185.1 then (if bt185.1 = 4 then (if bt187.1 = 4 then (laws_FnStreams.j0 k l0 false) else (laws_FnStreams.j0 k l0 true)) else (laws_FnStreams.j0 k l0 false)) else (laws_FnStreams.j0 k l0 true))) else (laws_FnStreams.j0 k l0 true))))))
theorem laws_FnStreams.mono_l : ∀ k, (∀ y0 y1, LeO (laws_FnStreams.j0 k y0 y1) (laws_FnStreams.j0 (k + 1) y0 y1)) ∧ (∀ y0 y1, LeO (laws_FnStreams.j1 k y0 y1) (laws_FnStreams.j1 (k + 1) y0 y1)) ∧ (∀ y0 y1 y2 y3 y4, LeO (laws_FnStreams.l0 k y0 y1 y2 y3 y4) (laws_FnStreams.l0 (k + 1) y0 y1 y2 y3 y4))
  | 0 => ⟨fun _ _ r h => by simp [laws_FnStreams.j0] at h, fun _ _ r h => by simp [laws_FnStreams.j1] at h, fun _ _ _ _ _ r h => by simp [laws_FnStreams.l0] at h⟩
  | k + 1 => by
    obtain ⟨ih0, ih1, ih2⟩ := laws_FnStreams.mono_l k
    refine ⟨?_, ?_, ?_⟩
    · intro y0 y1
      unfold laws_FnStreams.j0
      repeat' first
      | (with_reducible exact ih0 _ _)
      | (with_reducible exact ih1 _ _)
      | (with_reducible exact ih2 _ _ _ _ _)
      | (with_reducible exact impl_MayGet.mono _ _)
      | (with_reducible exact impl_MayPut.mono _ _)
      | (with_reducible exact impl_StreamRun.mono _ _)
      | (with_reducible exact impl_StreamStep.mono _ _ _)
      | (with_reducible exact spec_DrawStreamRun.mono _ _)
      | (with_reducible exact spec_DrawStreamStep.mono _ _)
      | (with_reducible exact spec_StreamStep.mono _ _ _)
      | (with_reducible exact LeO.refl _)
      | (with_reducible exact LeO.none _)
      | (with_reducible refine LeO.ite ?_ ?_)
      | (with_reducible refine LeO.bind ?_ (fun _ => ?_))
      | exact ih0 _ _
      | exact ih1 _ _
      | exact ih2 _ _ _ _ _
      | exact impl_MayGet.mono _ _
      | exact impl_MayPut.mono _ _
      | exact impl_StreamRun.mono _ _
      | exact impl_StreamStep.mono _ _ _
      | exact spec_DrawStreamRun.mono _ _
      | exact spec_DrawStreamStep.mono _ _
      | exact spec_StreamStep.mono _ _ _
      | exact LeO.none _
      | refine LeO.ite ?_ ?_
      | refine LeO.bind ?_ (fun _ => ?_)
    · intro y0 y1
      unfold laws_FnStreams.j1
      repeat' first
      | (with_reducible exact ih0 _ _)
      | (with_reducible exact ih1 _ _)
      | (with_reducible exact ih2 _ _ _ _ _)
      | (with_reducible exact impl_MayGet.mono _ _)
      | (with_reducible exact impl_MayPut.mono _ _)
      | (with_reducible exact impl_StreamRun.mono _ _)
      | (with_reducible exact impl_StreamStep.mono _ _ _)
      | (with_reducible exact spec_DrawStreamRun.mono _ _)
      | (with_reducible exact spec_DrawStreamStep.mono _ _)
      | (with_reducible exact spec_StreamStep.mono _ _ _)
      | (with_reducible exact LeO.refl _)
      | (with_reducible exact LeO.none _)
      | (with_reducible refine LeO.ite ?_ ?_)
      | (with_reducible refine LeO.bind ?_ (fun _ => ?_))
      | exact ih0 _ _
      | exact ih1 _ _
      | exact ih2 _ _ _ _ _
      | exact impl_MayGet.mono _ _
      | exact impl_MayPut.mono _ _
      | exact impl_StreamRun.mono _ _
      | exact impl_StreamStep.mono _ _ _
      | exact spec_DrawStreamRun.mono _ _
      | exact spec_DrawStreamStep.mono _ _
      | exact spec_StreamStep.mono _ _ _
      | exact LeO.none _
      | refine LeO.ite ?_ ?_
      | refine LeO.bind ?_ (fun _ => ?_)
    · intro y0 y1 y2 y3 y4
      unfold laws_FnStreams.l0
      repeat' first
      | (with_reducible exact ih0 _ _)
      | (with_reducible exact ih1 _ _)
      | (with_reducible exact ih2 _ _ _ _ _)
      | (with_reducible exact impl_MayGet.mono _ _)
      | (with_reducible exact impl_MayPut.mono _ _)
      | (with_reducible exact impl_StreamRun.mono _ _)
      | (with_reducible exact impl_StreamStep.mono _ _ _)
      | (with_reducible exact spec_DrawStreamRun.mono _ _)
      | (with_reducible exact spec_DrawStreamStep.mono _ _)
      | (with_reducible exact spec_StreamStep.mono _ _ _)
      | (with_reducible exact LeO.refl _)
      | (with_reducible exact LeO.none _)
      | (with_reducible refine LeO.ite ?_ ?_)
      | (with_reducible refine LeO.bind ?_ (fun _ => ?_))
      | exact ih0 _ _
      | exact ih1 _ _
      | exact ih2 _ _ _ _ _
      | exact impl_MayGet.mono _ _
      | exact impl_MayPut.mono _ _
      | exact impl_StreamRun.mono _ _
      | exact impl_StreamStep.mono _ _ _
      | exact spec_DrawStreamRun.mono _ _
      | exact spec_DrawStreamStep.mono _ _
      | exact spec_StreamStep.mono _ _ _
      | exact LeO.none _
      | refine LeO.ite ?_ ?_
      | refine LeO.bind ?_ (fun _ => ?_)
theorem laws_FnStreams.mono : ∀ a0 k, LeO (laws_FnStreams.f k a0) (laws_FnStreams.f (k + 1) a0) := by
  intro a0 k
  obtain ⟨ih0, ih1, ih2⟩ := laws_FnStreams.mono_l k
  unfold laws_FnStreams.f
  repeat' first
      | (with_reducible exact ih0 _ _)
      | (with_reducible exact ih1 _ _)
      | (with_reducible exact ih2 _ _ _ _ _)
      | (with_reducible exact impl_MayGet.mono _ _)
      | (with_reducible exact impl_MayPut.mono _ _)
      | (with_reducible exact impl_StreamRun.mono _ _)
      | (with_reducible exact impl_StreamStep.mono _ _ _)
      | (with_reducible exact spec_DrawStreamRun.mono _ _)
      | (with_reducible exact spec_DrawStreamStep.mono _ _)
      | (with_reducible exact spec_StreamStep.mono _ _ _)
      | (with_reducible exact LeO.refl _)
      | (with_reducible exact LeO.none _)
      | (with_reducible refine LeO.ite ?_ ?_)
      | (with_reducible refine LeO.bind ?_ (fun _ => ?_))
      | exact ih0 _ _
      | exact ih1 _ _
      | exact ih2 _ _ _ _ _
      | exact impl_MayGet.mono _ _
      | exact impl_MayPut.mono _ _
      | exact impl_StreamRun.mono _ _
      | exact impl_StreamStep.mono _ _ _
      | exact spec_DrawStreamRun.mono _ _
      | exact spec_DrawStreamStep.mono _ _
      | exact spec_StreamStep.mono _ _ _
      | exact LeO.none _
      | refine LeO.ite ?_ ?_
      | refine LeO.bind ?_ (fun _ => ?_)
set_option maxHeartbeats 8000000 in
set_option maxRecDepth 100000 in
theorem laws_FnStreams.calls (k : Nat) (A0 : Option Addr) (c0 : Nat) (l0 : List Int) (r : Bool) (w : World) (hr0 : Kd.C (Kd.int .u8) w A0 l0.length l0) (hc0 : l0.length ≤ c0) (h : laws_FnStreams.f k l0 = some r) :
    Calls Try.prog 7 #[.slice A0 l0.length c0] w fun e w' => e = .returned (.bool r) ∧ Below w.heap.size w w' := by
  have HR0 := Aside0.mk hr0
  have HC0 := Aside0.mk hc0
  clear hr0 hc0
  have HB := Aside0.mk (Below.refl w.heap.size w)
  have H : ((laws_big.f l0).bind fun t184 => (if t184 = true then (some true) else ((spec_DrawStreamStep.f k l0).bind fun bt185 => ((impl_StreamStep.f k bt185.1 bt185.2).bind fun bt187 => ((spec_StreamStep.f k bt185.1 bt185.2).bind fun bt189 => (if bt187.2 = bt189.2 then (if bt187.2 = 0 then (if bt185.1 = 4 then (if bt187.1 = 4 then (if bt187.1 < bt185.1 then (laws_FnStreams.j0 k l0 (bt185.1 != 3)) else (laws_FnStreams.j0 k l0 false)) else (laws_FnStreams.j0 k l0 true)) else (if bt187.1 < bt185.1 then (laws_FnStreams.j0 k l0 (bt185.1 != 3)) else (laws_FnStreams.j0 k l0 false))) else (if bt187.1 = bt185.1 then (if bt185.1 = 4 then (if bt187.1 = 4 then (laws_FnStreams.j0 k l0 false) else (laws_FnStreams.j0 k l0 true)) else (laws_FnStreams.j0 k l0 false)) else (laws_FnStreams.j0 k l0 true))) else (laws_FnStreams.j0 k l0 true))))))) = some r := h
  clear h
  replace H := Option.bind_eq_some_iff.mp H
  obtain ⟨t184, A20, H⟩ := H
  replace H : (if t184 = true then (some true) else ((spec_DrawStreamStep.f k l0).bind fun bt185 => ((impl_StreamStep.f k bt185.1 bt185.2).bind fun bt187 => ((spec_StreamStep.f k bt185.1 bt185.2).bind fun bt189 => (if bt187.2 = bt189.2 then (if bt187.2 = 0 then (if bt185.1 = 4 then (if bt187.1 = 4 then (if bt187.1 < bt185.1 then (laws_FnStreams.j0 k l0 (bt185.1 != 3)) else (laws_FnStreams.j0 k l0 false)) else (laws_FnStreams.j0 k l0 true)) else (if bt187.1 < bt185.1 then (laws_FnStreams.j0 k l0 (bt185.1 != 3)) else (laws_FnStreams.j0 k l0 false))) else (if bt187.1 = bt185.1 then (if bt185.1 = 4 then (if bt187.1 = 4 then (laws_FnStreams.j0 k l0 false) else (laws_FnStreams.j0 k l0 true)) else (laws_FnStreams.j0 k l0 false)) else (laws_FnStreams.j0 k l0 true))) else (laws_FnStreams.j0 k l0 true)))))) = some r := H
  have A2 := Aside0.mk A20
  clear A20
  by_cases c3 : t184 = true
  · subst c3
    have H1 : (some true) = some r := by rw [if_pos rfl] at H; exact H
    clear H
    have H := H1
    clear H1
    obtain rfl := Option.some.inj H
    go_enter Try.func7, Try.ntmps7
    go_wp2_with (first | ((with_reducible refine gate_callee (f := 20) rfl ?_); refine goesL_ (some 19) rfl rfl Try.func20 (by kernel_rfl) rfl #[.slice A0 l0.length c0] rfl (by (try simp only [List.map_toArray, List.map_cons, List.map_nil]); first | done | rfl | (simp only [List.length_drop, List.length_take]; rfl)) ?_; (with_reducible refine (laws_big.calls _ _ l0 true _ ?side1 ?side2 A2.out).mono ?_); (case side1 => repeat (first | exact HR0.out | (with_reducible refine Kd.C_alloc ?_ _) | (with_reducible refine Kd.C_drewN ?_ _) | (with_reducible refine Kd.C_drew ?_))); (case side2 => exact HC0.out); rintro e w' ⟨rfl, ⟨nd, rfl⟩⟩; refine ⟨_, rfl, ?_⟩))
    go_ret
    exact ⟨by first | rfl | (simp [errW_none, errW_some] <;> rfl) | (simp [*, errW_none, errW_some] <;> rfl), by repeat (first | (with_reducible first | exact HB.out | apply below_alloc | apply pw_below_drewN | apply below_drew1) | exact HB.out)⟩
  · replace c3 := Bool.eq_false_iff.mpr c3
    subst c3
    have H1 : ((spec_DrawStreamStep.f k l0).bind fun bt185 => ((impl_StreamStep.f k bt185.1 bt185.2).bind fun bt187 => ((spec_StreamStep.f k bt185.1 bt185.2).bind fun bt189 => (if bt187.2 = bt189.2 then (if bt187.2 = 0 then (if bt185.1 = 4 then (if bt187.1 = 4 then (if bt187.1 < bt185.1 then (laws_FnStreams.j0 k l0 (bt185.1 != 3)) else (laws_FnStreams.j0 k l0 false)) else (laws_FnStreams.j0 k l0 true)) else (if bt187.1 < bt185.1 then (laws_FnStreams.j0 k l0 (bt185.1 != 3)) else (laws_FnStreams.j0 k l0 false))) else (if bt187.1 = bt185.1 then (if bt185.1 = 4 then (if bt187.1 = 4 then (laws_FnStreams.j0 k l0 false) else (laws_FnStreams.j0 k l0 true)) else (laws_FnStreams.j0 k l0 false)) else (laws_FnStreams.j0 k l0 true))) else (laws_FnStreams.j0 k l0 true))))) = some r := by rw [if_neg (show ¬ (false = true) by decide)] at H; exact H
    clear H
    have H := H1
    clear H1
    replace H := Option.bind_eq_some_iff.mp H
    obtain ⟨⟨t185, t186⟩, A40, H⟩ := H
    replace H : ((impl_StreamStep.f k t185 t186).bind fun bt187 => ((spec_StreamStep.f k t185 t186).bind fun bt189 => (if bt187.2 = bt189.2 then (if bt187.2 = 0 then (if t185 = 4 then (if bt187.1 = 4 then (if bt187.1 < t185 then (laws_FnStreams.j0 k l0 (t185 != 3)) else (laws_FnStreams.j0 k l0 false)) else (laws_FnStreams.j0 k l0 true)) else (if bt187.1 < t185 then (laws_FnStreams.j0 k l0 (t185 != 3)) else (laws_FnStreams.j0 k l0 false))) else (if bt187.1 = t185 then (if t185 = 4 then (if bt187.1 = 4 then (laws_FnStreams.j0 k l0 false) else (laws_FnStreams.j0 k l0 true)) else (laws_FnStreams.j0 k l0 false)) else (laws_FnStreams.j0 k l0 true))) else (laws_FnStreams.j0 k l0 true)))) = some r := H
    have A4 := Aside0.mk A40
    clear A40
    replace H := Option.bind_eq_some_iff.mp H
    obtain ⟨⟨t187, t188⟩, A50, H⟩ := H
    replace H : ((spec_StreamStep.f k t185 t186).bind fun bt189 => (if t188 = bt189.2 then (if t188 = 0 then (if t185 = 4 then (if t187 = 4 then (if t187 < t185 then (laws_FnStreams.j0 k l0 (t185 != 3)) else (laws_FnStreams.j0 k l0 false)) else (laws_FnStreams.j0 k l0 true)) else (if t187 < t185 then (laws_FnStreams.j0 k l0 (t185 != 3)) else (laws_FnStreams.j0 k l0 false))) else (if t187 = t185 then (if t185 = 4 then (if t187 = 4 then (laws_FnStreams.j0 k l0 false) else (laws_FnStreams.j0 k l0 true)) else (laws_FnStreams.j0 k l0 false)) else (laws_FnStreams.j0 k l0 true))) else (laws_FnStreams.j0 k l0 true))) = some r := H
    have A5 := Aside0.mk A50
    clear A50
    replace H := Option.bind_eq_some_iff.mp H
    obtain ⟨⟨t189, t190⟩, A60, H⟩ := H
    replace H : (if t188 = t190 then (if t188 = 0 then (if t185 = 4 then (if t187 = 4 then (if t187 < t185 then (laws_FnStreams.j0 k l0 (t185 != 3)) else (laws_FnStreams.j0 k l0 false)) else (laws_FnStreams.j0 k l0 true)) else (if t187 < t185 then (laws_FnStreams.j0 k l0 (t185 != 3)) else (laws_FnStreams.j0 k l0 false))) else (if t187 = t185 then (if t185 = 4 then (if t187 = 4 then (laws_FnStreams.j0 k l0 false) else (laws_FnStreams.j0 k l0 true)) else (laws_FnStreams.j0 k l0 false)) else (laws_FnStreams.j0 k l0 true))) else (laws_FnStreams.j0 k l0 true)) = some r := H
    have A6 := Aside0.mk A60
    clear A60
    have HC7 := Aside0.mk H
    clear H
    go_enter Try.func7, Try.ntmps7
    go_upto_region 6 with (first | ((with_reducible refine gate_callee (f := 20) rfl ?_); refine goesL_ (some 19) rfl rfl Try.func20 (by kernel_rfl) rfl #[.slice A0 l0.length c0] rfl (by (try simp only [List.map_toArray, List.map_cons, List.map_nil]); first | done | rfl | (simp only [List.length_drop, List.length_take]; rfl)) ?_; (with_reducible refine (laws_big.calls _ _ l0 false _ ?side1 ?side2 A2.out).mono ?_); (case side1 => repeat (first | exact HR0.out | (with_reducible refine Kd.C_alloc ?_ _) | (with_reducible refine Kd.C_drewN ?_ _) | (with_reducible refine Kd.C_drew ?_))); (case side2 => exact HC0.out); rintro e w' ⟨rfl, ⟨nd, rfl⟩⟩; refine ⟨_, rfl, ?_⟩) | ((with_reducible refine gate_callee (f := 21) rfl ?_); refine goesL_ (some 22) rfl rfl Try.func21 (by kernel_rfl) rfl #[.slice A0 l0.length c0] rfl (by (try simp only [List.map_toArray, List.map_cons, List.map_nil]); first | done | rfl | (simp only [List.length_drop, List.length_take]; rfl)) ?_; (with_reducible refine (spec_DrawStreamStep.calls k _ _ l0 t185 t186 _ ?side1 ?side2 A4.out).mono ?_); (case side1 => repeat (first | exact HR0.out | (with_reducible refine Kd.C_alloc ?_ _) | (with_reducible refine Kd.C_drewN ?_ _) | (with_reducible refine Kd.C_drew ?_))); (case side2 => exact HC0.out); rintro e w8 ⟨rfl, hb⟩; refine ⟨_, rfl, ?_⟩; have n0_ := Aside0.mk (below_step (by repeat (first | (with_reducible first | exact HB.out | apply below_alloc | apply pw_below_drewN | apply below_drew1) | exact HB.out)) hb); clear HB; have HB := n0_; clear n0_; (try clear hb); (try clear hb2); (try clear hk); (try clear hi)) | ((with_reducible refine gate_callee (f := 11) rfl ?_); refine goesL_ (some 28) rfl rfl Try.func11 (by kernel_rfl) rfl #[.int .i64 t185, .int .i64 t186] rfl (by (try simp only [List.map_toArray, List.map_cons, List.map_nil]); first | done | rfl | (simp only [List.length_drop, List.length_take]; rfl)) ?_; (with_reducible refine (impl_StreamStep.calls k t185 t186 t187 t188 _ A5.out).mono ?_); rintro e w' ⟨rfl, ⟨nd, rfl⟩⟩; refine ⟨_, rfl, ?_⟩) | ((with_reducible refine gate_callee (f := 10) rfl ?_); refine goesL_ (some 34) rfl rfl Try.func10 (by kernel_rfl) rfl #[.int .i64 t185, .int .i64 t186] rfl (by (try simp only [List.map_toArray, List.map_cons, List.map_nil]); first | done | rfl | (simp only [List.length_drop, List.length_take]; rfl)) ?_; (with_reducible refine (spec_StreamStep.calls k t185 t186 t189 t190 _ A6.out).mono ?_); rintro e w' ⟨rfl, ⟨nd, rfl⟩⟩; refine ⟨_, rfl, ?_⟩))
    (try simp only [Act.put, List.setIfInBounds_toArray, List.set_cons_zero, List.set_cons_succ])
    go_cut [69] (fun v69 wc => ∃ (kq : Nat) (x69_6 : Bool), v69 = .bool x69_6 ∧ Aside0 (laws_FnStreams.j0 kq l0 x69_6 = some r) ∧ Aside0 (kq ≤ k) ∧ Aside0 (Below w.heap.size w wc))
    case first =>
      have H := HC7.out
      clear HC7
      by_cases c9 : t188 = t190
      · rw [if_pos c9] at H
        have c9b0 : (t188 == t190) = true := beq_iff_eq.mpr c9
        have c9b1 : (t188 != t190) = false := bne_eq_false_iff_eq.mpr c9
        clear c9
        (first | rw [c9b0] | (simp only [i64_w, i32_w]; rw [c9b0]) | skip)
        by_cases c10 : t188 = 0
        · rw [if_pos c10] at H
          have c10b0 : (t188 == 0) = true := beq_iff_eq.mpr c10
          have c10b1 : (t188 != 0) = false := bne_eq_false_iff_eq.mpr c10
          clear c10
          by_cases c11 : t185 = 4
          · rw [if_pos c11] at H
            have c11b0 : (t185 == 4) = true := beq_iff_eq.mpr c11
            have c11b1 : (t185 != 4) = false := bne_eq_false_iff_eq.mpr c11
            clear c11
            by_cases c12 : t187 = 4
            · rw [if_pos c12] at H
              have c12b0 : (t187 == 4) = true := beq_iff_eq.mpr c12
              have c12b1 : (t187 != 4) = false := bne_eq_false_iff_eq.mpr c12
              clear c12
              by_cases c13 : t187 < t185
              · rw [if_pos c13] at H
                have c13b0 : decide (t187 < t185) = true := decide_eq_true c13
                clear c13
                have H' := Aside0.mk H
                clear H
                go_wp2
                go_meet
                case rel => exact ⟨_, ((t185 != 3)), (by first | rfl | (simp; done) | (simp [*]; done)), H', ⟨by first | omega | exact Nat.le_refl _⟩, ⟨by repeat (first | (with_reducible first | exact HB.out | apply below_alloc | apply pw_below_drewN | apply below_drew1) | exact HB.out)⟩⟩
              · rw [if_neg c13] at H
                have c13b0 : decide (t187 < t185) = false := decide_eq_false c13
                clear c13
                have H' := Aside0.mk H
                clear H
                go_wp2
                go_meet
                case rel => exact ⟨_, (false), (by first | rfl | (simp; done) | (simp [*]; done)), H', ⟨by first | omega | exact Nat.le_refl _⟩, ⟨by repeat (first | (with_reducible first | exact HB.out | apply below_alloc | apply pw_below_drewN | apply below_drew1) | exact HB.out)⟩⟩
            · rw [if_neg c12] at H
              have c12b0 : (t187 == 4) = false := beq_eq_false_iff_ne.mpr c12
              have c12b1 : (t187 != 4) = true := bne_iff_ne.mpr c12
              have H' := Aside0.mk H
              clear H
              go_wp2
              go_meet
              case rel => exact ⟨_, (true), (by first | rfl | (simp; done) | (simp [*]; done)), H', ⟨by first | omega | exact Nat.le_refl _⟩, ⟨by repeat (first | (with_reducible first | exact HB.out | apply below_alloc | apply pw_below_drewN | apply below_drew1) | exact HB.out)⟩⟩
          · rw [if_neg c11] at H
            have c11b0 : (t185 == 4) = false := beq_eq_false_iff_ne.mpr c11
            have c11b1 : (t185 != 4) = true := bne_iff_ne.mpr c11
            by_cases c14 : t187 < t185
            · rw [if_pos c14] at H
              have c14b0 : decide (t187 < t185) = true := decide_eq_true c14
              clear c14
              have H' := Aside0.mk H
              clear H
              go_wp2
              go_meet
              case rel => exact ⟨_, ((t185 != 3)), (by first | rfl | (simp; done) | (simp [*]; done)), H', ⟨by first | omega | exact Nat.le_refl _⟩, ⟨by repeat (first | (with_reducible first | exact HB.out | apply below_alloc | apply pw_below_drewN | apply below_drew1) | exact HB.out)⟩⟩
            · rw [if_neg c14] at H
              have c14b0 : decide (t187 < t185) = false := decide_eq_false c14
              clear c14
              have H' := Aside0.mk H
              clear H
              go_wp2
              go_meet
              case rel => exact ⟨_, (false), (by first | rfl | (simp; done) | (simp [*]; done)), H', ⟨by first | omega | exact Nat.le_refl _⟩, ⟨by repeat (first | (with_reducible first | exact HB.out | apply below_alloc | apply pw_below_drewN | apply below_drew1) | exact HB.out)⟩⟩
        · rw [if_neg c10] at H
          have c10b0 : (t188 == 0) = false := beq_eq_false_iff_ne.mpr c10
          have c10b1 : (t188 != 0) = true := bne_iff_ne.mpr c10
          by_cases c15 : t187 = t185
          · rw [if_pos c15] at H
            have c15b0 : (t187 == t185) = true := beq_iff_eq.mpr c15
            have c15b1 : (t187 != t185) = false := bne_eq_false_iff_eq.mpr c15
            clear c15
            by_cases c16 : t185 = 4
            · rw [if_pos c16] at H
              have c16b0 : (t185 == 4) = true := beq_iff_eq.mpr c16
              have c16b1 : (t185 != 4) = false := bne_eq_false_iff_eq.mpr c16
              clear c16
              by_cases c17 : t187 = 4
              · rw [if_pos c17] at H
                have c17b0 : (t187 == 4) = true := beq_iff_eq.mpr c17
                have c17b1 : (t187 != 4) = false := bne_eq_false_iff_eq.mpr c17
                clear c17
                have H' := Aside0.mk H
                clear H
                go_wp2
                go_meet
                case rel => exact ⟨_, (false), (by first | rfl | (simp; done) | (simp [*]; done)), H', ⟨by first | omega | exact Nat.le_refl _⟩, ⟨by repeat (first | (with_reducible first | exact HB.out | apply below_alloc | apply pw_below_drewN | apply below_drew1) | exact HB.out)⟩⟩
              · rw [if_neg c17] at H
                have c17b0 : (t187 == 4) = false := beq_eq_false_iff_ne.mpr c17
                have c17b1 : (t187 != 4) = true := bne_iff_ne.mpr c17
                have H' := Aside0.mk H
                clear H
                go_wp2
                go_meet
                case rel => exact ⟨_, (true), (by first | rfl | (simp; done) | (simp [*]; done)), H', ⟨by first | omega | exact Nat.le_refl _⟩, ⟨by repeat (first | (with_reducible first | exact HB.out | apply below_alloc | apply pw_below_drewN | apply below_drew1) | exact HB.out)⟩⟩
            · rw [if_neg c16] at H
              have c16b0 : (t185 == 4) = false := beq_eq_false_iff_ne.mpr c16
              have c16b1 : (t185 != 4) = true := bne_iff_ne.mpr c16
              have H' := Aside0.mk H
              clear H
              go_wp2
              go_meet
              case rel => exact ⟨_, (false), (by first | rfl | (simp; done) | (simp [*]; done)), H', ⟨by first | omega | exact Nat.le_refl _⟩, ⟨by repeat (first | (with_reducible first | exact HB.out | apply below_alloc | apply pw_below_drewN | apply below_drew1) | exact HB.out)⟩⟩
          · rw [if_neg c15] at H
            have c15b0 : (t187 == t185) = false := beq_eq_false_iff_ne.mpr c15
            have c15b1 : (t187 != t185) = true := bne_iff_ne.mpr c15
            have H' := Aside0.mk H
            clear H
            go_wp2
            go_meet
            case rel => exact ⟨_, (true), (by first | rfl | (simp; done) | (simp [*]; done)), H', ⟨by first | omega | exact Nat.le_refl _⟩, ⟨by repeat (first | (with_reducible first | exact HB.out | apply below_alloc | apply pw_below_drewN | apply below_drew1) | exact HB.out)⟩⟩
      · rw [if_neg c9] at H
        have c9b0 : (t188 == t190) = false := beq_eq_false_iff_ne.mpr c9
        have c9b1 : (t188 != t190) = true := bne_iff_ne.mpr c9
        (first | rw [c9b0] | (simp only [i64_w, i32_w]; rw [c9b0]) | skip)
        have H' := Aside0.mk H
        clear H
        go_wp2
        go_meet
        case rel => exact ⟨_, (true), (by first | rfl | (simp; done) | (simp [*]; done)), H', ⟨by first | omega | exact Nat.le_refl _⟩, ⟨by repeat (first | (with_reducible first | exact HB.out | apply below_alloc | apply pw_below_drewN | apply below_drew1) | exact HB.out)⟩⟩
    case rest =>
      clear HC7
      try clear c1
      try clear c2
      try clear p2
      try clear c3
      try clear c7
      try clear c9
      try clear c9b0
      try clear c9b1
      try clear c10
      try clear c10b0
      try clear c10b1
      try clear c11
      try clear c11b0
      try clear c11b1
      try clear c12
      try clear c12b0
      try clear c12b1
      try clear c13
      try clear c13b0
      try clear c14
      try clear c14b0
      try clear c15
      try clear c15b0
      try clear c15b1
      try clear c16
      try clear c16b0
      try clear c16b1
      try clear c17
      try clear c17b0
      try clear c17b1
      obtain ⟨kq, x69_6, rfl, HA, HJ6, HB⟩ := hcut
      cases kq with
      | zero => exact absurd HA.out (by simp [laws_FnStreams.j0])
      | succ kj6 =>
        have H := HA.out
        clear HA
        simp only [laws_FnStreams.j0] at H
        by_cases c18 : x69_6 = true
        · subst c18
          have H1 : (none) = some r := by rw [if_pos rfl] at H; exact H
          clear H
          have H := H1
          clear H1
          exact absurd H (by simp)
        · replace c18 := Bool.eq_false_iff.mpr c18
          subst c18
          have H1 : ((impl_MayPut.f kj6 3).bind fun t191 => (if t191 = true then (laws_FnStreams.j1 kj6 l0 true) else ((impl_MayGet.f kj6 2).bind fun t192 => (if t192 = true then (laws_FnStreams.j1 kj6 l0 true) else ((impl_MayPut.f kj6 4).bind fun t193 => (if t193 = true then (laws_FnStreams.j1 kj6 l0 true) else ((impl_MayPut.f kj6 1).bind fun t194 => (if t194 = true then ((impl_MayGet.f kj6 1).bind fun t195 => (laws_FnStreams.j1 kj6 l0 (!t195))) else (laws_FnStreams.j1 kj6 l0 true))))))))) = some r := by rw [if_neg (show ¬ (false = true) by decide)] at H; exact H
          clear H
          have H := H1
          clear H1
          have HC19 := Aside0.mk H
          clear H
          go_upto_region 8 with (fail)
          go_cut [84] (fun v84 wc => ∃ (kq : Nat) (x84_18 : Bool), v84 = .bool x84_18 ∧ Aside0 (laws_FnStreams.j1 kq l0 x84_18 = some r) ∧ Aside0 (kq ≤ kj6) ∧ Aside0 (Below w.heap.size w wc))
          case first =>
            have H := HC19.out
            clear HC19
            replace H := Option.bind_eq_some_iff.mp H
            obtain ⟨t191, A200, H⟩ := H
            replace H : (if t191 = true then (laws_FnStreams.j1 kj6 l0 true) else ((impl_MayGet.f kj6 2).bind fun t192 => (if t192 = true then (laws_FnStreams.j1 kj6 l0 true) else ((impl_MayPut.f kj6 4).bind fun t193 => (if t193 = true then (laws_FnStreams.j1 kj6 l0 true) else ((impl_MayPut.f kj6 1).bind fun t194 => (if t194 = true then ((impl_MayGet.f kj6 1).bind fun t195 => (laws_FnStreams.j1 kj6 l0 (!t195))) else (laws_FnStreams.j1 kj6 l0 true)))))))) = some r := H
            have A20 := Aside0.mk A200
            clear A200
            by_cases c21 : t191 = true
            · subst c21
              have H1 : (laws_FnStreams.j1 kj6 l0 true) = some r := by rw [if_pos rfl] at H; exact H
              clear H
              have H := H1
              clear H1
              have H' := Aside0.mk H
              clear H
              go_wp2_with (first | ((with_reducible refine gate_callee (f := 15) rfl ?_); refine goesL_ (some 70) rfl rfl Try.func15 (by kernel_rfl) rfl #[.int .i64 3] rfl (by (try simp only [List.map_toArray, List.map_cons, List.map_nil]); first | done | rfl | (simp only [List.length_drop, List.length_take]; rfl)) ?_; (with_reducible refine (impl_MayPut.calls kj6 3 true _ A20.out).mono ?_); rintro e w' ⟨rfl, ⟨nd, rfl⟩⟩; refine ⟨_, rfl, ?_⟩))
              go_meet
              case rel => exact ⟨_, (true), (by first | rfl | (simp; done) | (simp [*]; done)), H', ⟨by have := HJ6.out; first | omega | exact Nat.le_refl _⟩, ⟨by repeat (first | (with_reducible first | exact HB.out | apply below_alloc | apply pw_below_drewN | apply below_drew1) | exact HB.out)⟩⟩
            · replace c21 := Bool.eq_false_iff.mpr c21
              subst c21
              have H1 : ((impl_MayGet.f kj6 2).bind fun t192 => (if t192 = true then (laws_FnStreams.j1 kj6 l0 true) else ((impl_MayPut.f kj6 4).bind fun t193 => (if t193 = true then (laws_FnStreams.j1 kj6 l0 true) else ((impl_MayPut.f kj6 1).bind fun t194 => (if t194 = true then ((impl_MayGet.f kj6 1).bind fun t195 => (laws_FnStreams.j1 kj6 l0 (!t195))) else (laws_FnStreams.j1 kj6 l0 true))))))) = some r := by rw [if_neg (show ¬ (false = true) by decide)] at H; exact H
              clear H
              have H := H1
              clear H1
              replace H := Option.bind_eq_some_iff.mp H
              obtain ⟨t192, A220, H⟩ := H
              replace H : (if t192 = true then (laws_FnStreams.j1 kj6 l0 true) else ((impl_MayPut.f kj6 4).bind fun t193 => (if t193 = true then (laws_FnStreams.j1 kj6 l0 true) else ((impl_MayPut.f kj6 1).bind fun t194 => (if t194 = true then ((impl_MayGet.f kj6 1).bind fun t195 => (laws_FnStreams.j1 kj6 l0 (!t195))) else (laws_FnStreams.j1 kj6 l0 true)))))) = some r := H
              have A22 := Aside0.mk A220
              clear A220
              by_cases c23 : t192 = true
              · subst c23
                have H1 : (laws_FnStreams.j1 kj6 l0 true) = some r := by rw [if_pos rfl] at H; exact H
                clear H
                have H := H1
                clear H1
                have H' := Aside0.mk H
                clear H
                go_wp2_with (first | ((with_reducible refine gate_callee (f := 15) rfl ?_); refine goesL_ (some 70) rfl rfl Try.func15 (by kernel_rfl) rfl #[.int .i64 3] rfl (by (try simp only [List.map_toArray, List.map_cons, List.map_nil]); first | done | rfl | (simp only [List.length_drop, List.length_take]; rfl)) ?_; (with_reducible refine (impl_MayPut.calls kj6 3 false _ A20.out).mono ?_); rintro e w' ⟨rfl, ⟨nd, rfl⟩⟩; refine ⟨_, rfl, ?_⟩) | (go_at_call 13; (with_reducible refine (impl_MayGet.calls kj6 2 true _ A22.out).mono ?_); rintro e w' ⟨rfl, ⟨nd, rfl⟩⟩))
                go_meet
                case rel => exact ⟨_, (true), (by first | rfl | (simp; done) | (simp [*]; done)), H', ⟨by have := HJ6.out; first | omega | exact Nat.le_refl _⟩, ⟨by repeat (first | (with_reducible first | exact HB.out | apply below_alloc | apply pw_below_drewN | apply below_drew1) | exact HB.out)⟩⟩
              · replace c23 := Bool.eq_false_iff.mpr c23
                subst c23
                have H1 : ((impl_MayPut.f kj6 4).bind fun t193 => (if t193 = true then (laws_FnStreams.j1 kj6 l0 true) else ((impl_MayPut.f kj6 1).bind fun t194 => (if t194 = true then ((impl_MayGet.f kj6 1).bind fun t195 => (laws_FnStreams.j1 kj6 l0 (!t195))) else (laws_FnStreams.j1 kj6 l0 true))))) = some r := by rw [if_neg (show ¬ (false = true) by decide)] at H; exact H
                clear H
                have H := H1
                clear H1
                replace H := Option.bind_eq_some_iff.mp H
                obtain ⟨t193, A240, H⟩ := H
                replace H : (if t193 = true then (laws_FnStreams.j1 kj6 l0 true) else ((impl_MayPut.f kj6 1).bind fun t194 => (if t194 = true then ((impl_MayGet.f kj6 1).bind fun t195 => (laws_FnStreams.j1 kj6 l0 (!t195))) else (laws_FnStreams.j1 kj6 l0 true)))) = some r := H
                have A24 := Aside0.mk A240
                clear A240
                by_cases c25 : t193 = true
                · subst c25
                  have H1 : (laws_FnStreams.j1 kj6 l0 true) = some r := by rw [if_pos rfl] at H; exact H
                  clear H
                  have H := H1
                  clear H1
                  have H' := Aside0.mk H
                  clear H
                  go_wp2_with (first | ((with_reducible refine gate_callee (f := 15) rfl ?_); refine goesL_ (some 70) rfl rfl Try.func15 (by kernel_rfl) rfl #[.int .i64 3] rfl (by (try simp only [List.map_toArray, List.map_cons, List.map_nil]); first | done | rfl | (simp only [List.length_drop, List.length_take]; rfl)) ?_; (with_reducible refine (impl_MayPut.calls kj6 3 false _ A20.out).mono ?_); rintro e w' ⟨rfl, ⟨nd, rfl⟩⟩; refine ⟨_, rfl, ?_⟩) | (go_at_call 13; (with_reducible refine (impl_MayGet.calls kj6 2 false _ A22.out).mono ?_); rintro e w' ⟨rfl, ⟨nd, rfl⟩⟩) | (go_at_call 15; (with_reducible refine (impl_MayPut.calls kj6 4 true _ A24.out).mono ?_); rintro e w' ⟨rfl, ⟨nd, rfl⟩⟩))
                  go_meet
                  case rel => exact ⟨_, (true), (by first | rfl | (simp; done) | (simp [*]; done)), H', ⟨by have := HJ6.out; first | omega | exact Nat.le_refl _⟩, ⟨by repeat (first | (with_reducible first | exact HB.out | apply below_alloc | apply pw_below_drewN | apply below_drew1) | exact HB.out)⟩⟩
                · replace c25 := Bool.eq_false_iff.mpr c25
                  subst c25
                  have H1 : ((impl_MayPut.f kj6 1).bind fun t194 => (if t194 = true then ((impl_MayGet.f kj6 1).bind fun t195 => (laws_FnStreams.j1 kj6 l0 (!t195))) else (laws_FnStreams.j1 kj6 l0 true))) = some r := by rw [if_neg (show ¬ (false = true) by decide)] at H; exact H
                  clear H
                  have H := H1
                  clear H1
                  replace H := Option.bind_eq_some_iff.mp H
                  obtain ⟨t194, A260, H⟩ := H
                  replace H : (if t194 = true then ((impl_MayGet.f kj6 1).bind fun t195 => (laws_FnStreams.j1 kj6 l0 (!t195))) else (laws_FnStreams.j1 kj6 l0 true)) = some r := H
                  have A26 := Aside0.mk A260
                  clear A260
                  by_cases c27 : t194 = true
                  · subst c27
                    have H1 : ((impl_MayGet.f kj6 1).bind fun t195 => (laws_FnStreams.j1 kj6 l0 (!t195))) = some r := by rw [if_pos rfl] at H; exact H
                    clear H
                    have H := H1
                    clear H1
                    replace H := Option.bind_eq_some_iff.mp H
                    obtain ⟨t195, A280, H⟩ := H
                    replace H : (laws_FnStreams.j1 kj6 l0 (!t195)) = some r := H
                    have A28 := Aside0.mk A280
                    clear A280
                    have H' := Aside0.mk H
                    clear H
                    go_wp2_with (first | ((with_reducible refine gate_callee (f := 15) rfl ?_); refine goesL_ (some 70) rfl rfl Try.func15 (by kernel_rfl) rfl #[.int .i64 3] rfl (by (try simp only [List.map_toArray, List.map_cons, List.map_nil]); first | done | rfl | (simp only [List.length_drop, List.length_take]; rfl)) ?_; (with_reducible refine (impl_MayPut.calls kj6 3 false _ A20.out).mono ?_); rintro e w' ⟨rfl, ⟨nd, rfl⟩⟩; refine ⟨_, rfl, ?_⟩) | (go_at_call 13; (with_reducible refine (impl_MayGet.calls kj6 2 false _ A22.out).mono ?_); rintro e w' ⟨rfl, ⟨nd, rfl⟩⟩) | (go_at_call 15; (with_reducible refine (impl_MayPut.calls kj6 4 false _ A24.out).mono ?_); rintro e w' ⟨rfl, ⟨nd, rfl⟩⟩) | (go_at_call 15; (with_reducible refine (impl_MayPut.calls kj6 1 true _ A26.out).mono ?_); rintro e w' ⟨rfl, ⟨nd, rfl⟩⟩) | (go_at_call 13; (with_reducible refine (impl_MayGet.calls kj6 1 t195 _ A28.out).mono ?_); rintro e w' ⟨rfl, ⟨nd, rfl⟩⟩))
                    go_meet
                    case rel => exact ⟨_, (!t195), (by first | rfl | (simp; done) | (simp [*]; done)), H', ⟨by have := HJ6.out; first | omega | exact Nat.le_refl _⟩, ⟨by repeat (first | (with_reducible first | exact HB.out | apply below_alloc | apply pw_below_drewN | apply below_drew1) | exact HB.out)⟩⟩
                  · replace c27 := Bool.eq_false_iff.mpr c27
                    subst c27
                    have H1 : (laws_FnStreams.j1 kj6 l0 true) = some r := by rw [if_neg (show ¬ (false = true) by decide)] at H; exact H
                    clear H
                    have H := H1
                    clear H1
                    have H' := Aside0.mk H
                    clear H
                    go_wp2_with (first | ((with_reducible refine gate_callee (f := 15) rfl ?_); refine goesL_ (some 70) rfl rfl Try.func15 (by kernel_rfl) rfl #[.int .i64 3] rfl (by (try simp only [List.map_toArray, List.map_cons, List.map_nil]); first | done | rfl | (simp only [List.length_drop, List.length_take]; rfl)) ?_; (with_reducible refine (impl_MayPut.calls kj6 3 false _ A20.out).mono ?_); rintro e w' ⟨rfl, ⟨nd, rfl⟩⟩; refine ⟨_, rfl, ?_⟩) | (go_at_call 13; (with_reducible refine (impl_MayGet.calls kj6 2 false _ A22.out).mono ?_); rintro e w' ⟨rfl, ⟨nd, rfl⟩⟩) | (go_at_call 15; (with_reducible refine (impl_MayPut.calls kj6 4 false _ A24.out).mono ?_); rintro e w' ⟨rfl, ⟨nd, rfl⟩⟩) | (go_at_call 15; (with_reducible refine (impl_MayPut.calls kj6 1 false _ A26.out).mono ?_); rintro e w' ⟨rfl, ⟨nd, rfl⟩⟩))
                    go_meet
                    case rel => exact ⟨_, (true), (by first | rfl | (simp; done) | (simp [*]; done)), H', ⟨by have := HJ6.out; first | omega | exact Nat.le_refl _⟩, ⟨by repeat (first | (with_reducible first | exact HB.out | apply below_alloc | apply pw_below_drewN | apply below_drew1) | exact HB.out)⟩⟩
          case rest =>
            clear HC19
            try clear c1
            try clear c2
            try clear p2
            try clear c3
            try clear c7
            try clear c9
            try clear c9b0
            try clear c9b1
            try clear c10
            try clear c10b0
            try clear c10b1
            try clear c11
            try clear c11b0
            try clear c11b1
            try clear c12
            try clear c12b0
            try clear c12b1
            try clear c13
            try clear c13b0
            try clear c14
            try clear c14b0
            try clear c15
            try clear c15b0
            try clear c15b1
            try clear c16
            try clear c16b0
            try clear c16b1
            try clear c17
            try clear c17b0
            try clear c17b1
            try clear c18
            try clear c20
            try clear c21
            try clear c23
            try clear c25
            try clear c27
            try clear p2
            obtain ⟨kq, x84_18, rfl, HA, HJ18, HB⟩ := hcut
            cases kq with
            | zero => exact absurd HA.out (by simp [laws_FnStreams.j1])
            | succ kj18 =>
              have H := HA.out
              clear HA
              simp only [laws_FnStreams.j1] at H
              by_cases c29 : x84_18 = true
              · subst c29
                have H1 : (none) = some r := by rw [if_pos rfl] at H; exact H
                clear H
                have H := H1
                clear H1
                exact absurd H (by simp)
              · replace c29 := Bool.eq_false_iff.mpr c29
                subst c29
                have H1 : ((spec_DrawStreamRun.f kj18 l0).bind fun t196 => ((impl_StreamRun.f kj18 t196).bind fun bt199 => (laws_FnStreams.l0 kj18 t196 bt199.1 bt199.2 0 0))) = some r := by rw [if_neg (show ¬ (false = true) by decide)] at H; exact H
                clear H
                have H := H1
                clear H1
                replace H := Option.bind_eq_some_iff.mp H
                obtain ⟨t196, A300, H⟩ := H
                replace H : ((impl_StreamRun.f kj18 t196).bind fun bt199 => (laws_FnStreams.l0 kj18 t196 bt199.1 bt199.2 0 0)) = some r := H
                have A30 := Aside0.mk A300
                clear A300
                replace H := Option.bind_eq_some_iff.mp H
                obtain ⟨⟨t199, t200⟩, A310, H⟩ := H
                replace H : (laws_FnStreams.l0 kj18 t196 t199 t200 0 0) = some r := H
                have A31 := Aside0.mk A310
                clear A310
                have H' := Aside0.mk H
                clear H
                go_wp2_with (first | ((with_reducible refine gate_callee (f := 22) rfl ?_); refine goesL_ (some 86) rfl rfl Try.func22 (by kernel_rfl) rfl #[.slice A0 l0.length c0] rfl (by (try simp only [List.map_toArray, List.map_cons, List.map_nil]); first | done | rfl | (simp only [List.length_drop, List.length_take]; rfl)) ?_; (with_reducible refine (spec_DrawStreamRun.calls kj18 _ _ l0 t196 _ ?side1 ?side2 A30.out).mono ?_); (case side1 => repeat (first | exact (Kd.C_below HR0.out HB.out) | (with_reducible refine Kd.C_alloc ?_ _) | (with_reducible refine Kd.C_drewN ?_ _) | (with_reducible refine Kd.C_drew ?_))); (case side2 => exact HC0.out); rintro e w32 ⟨v197, rfl, ho0, hb⟩; refine ⟨_, rfl, ?_⟩; have n0_ := Aside0.mk (Kd.R_lower ho0 (below_size (by repeat (first | (with_reducible first | exact HB.out | apply below_alloc | apply pw_below_drewN | apply below_drew1) | exact HB.out)))); have n1_ := Aside0.mk (below_step (by repeat (first | (with_reducible first | exact HB.out | apply below_alloc | apply pw_below_drewN | apply below_drew1) | exact HB.out)) hb); clear HB; have HO198 := n0_; have HB := n1_; clear n0_ n1_; (try clear hb); (try clear hb2); (try clear hk); (try clear hi); (try clear ho0); obtain ⟨Ao33, co33, eo33⟩ := Kd.R_slice HO198.out; subst eo33) | ((with_reducible refine gate_callee (f := 18) rfl ?_); refine goesL_ (some 89) rfl rfl Try.func18 (by kernel_rfl) rfl #[.slice Ao33 t196.length co33] rfl (by (try simp only [List.map_toArray, List.map_cons, List.map_nil]); first | done | rfl | (simp only [List.length_drop, List.length_take]; rfl)) ?_; (with_reducible refine (impl_StreamRun.calls kj18 _ _ t196 t199 t200 _ ?side1 ?side2 A31.out).mono ?_); (case side1 => repeat (first | exact (Kd.R_reads' HO198.out).2.2 | (with_reducible refine Kd.C_alloc ?_ _) | (with_reducible refine Kd.C_drewN ?_ _) | (with_reducible refine Kd.C_drew ?_))); (case side2 => exact (Kd.R_reads' HO198.out).2.1); rintro e w' ⟨rfl, ⟨nd, rfl⟩⟩; refine ⟨_, rfl, ?_⟩))
                go_loopg [12, 13] kj18 (fun kq v12 v13 w' => ∃ (x12_3 : Int) (x13_3 : Int), v12 = .int .i64 x12_3 ∧ v13 = .int .i64 x13_3 ∧ Aside0 (laws_FnStreams.l0 kq t196 t199 t200 x12_3 x13_3 = some r) ∧ Aside0 (kq ≤ kj18) ∧ Aside0 (Kd.R (Kd.int .i64) 3 w' w.heap.size (fun _ => True) (.slice Ao33 t196.length co33) t196) ∧ Aside0 (Below w.heap.size w w'))
                case atStart => exact ⟨(0), (0), (by first | rfl | (simp; done) | (simp [*]; done)), (by first | rfl | (simp; done) | (simp [*]; done)), H', ⟨Nat.le_refl _⟩, ⟨by (with_reducible repeat (first | apply Kd.R_alloc | apply Kd.R_drewN | apply Kd.R_drew)); exact HO198.out⟩, ⟨by repeat (first | (with_reducible first | exact HB.out | apply below_alloc | apply pw_below_drewN | apply below_drew1) | exact HB.out)⟩⟩
                case round =>
                  clear H'
                  try clear c1
                  try clear c2
                  try clear p2
                  try clear c3
                  try clear c7
                  try clear c9
                  try clear c9b0
                  try clear c9b1
                  try clear c10
                  try clear c10b0
                  try clear c10b1
                  try clear c11
                  try clear c11b0
                  try clear c11b1
                  try clear c12
                  try clear c12b0
                  try clear c12b1
                  try clear c13
                  try clear c13b0
                  try clear c14
                  try clear c14b0
                  try clear c15
                  try clear c15b0
                  try clear c15b1
                  try clear c16
                  try clear c16b0
                  try clear c16b1
                  try clear c17
                  try clear c17b0
                  try clear c17b1
                  try clear c18
                  try clear c20
                  try clear c21
                  try clear c22
                  try clear c23
                  try clear c25
                  try clear c27
                  try clear c29
                  try clear p2
                  obtain ⟨x12_3, x13_3, rfl, rfl, HA, HK3, HO_9, HB⟩ := hrel
                  cases gk with
                  | zero => exact absurd HA.out (by simp [laws_FnStreams.l0])
                  | succ k3 =>
                    have H := HA.out
                    clear HA
                    simp only [laws_FnStreams.l0] at H
                    by_cases c34 : x13_3 < t200
                    · rw [if_pos c34] at H
                      have c34b0 : decide (x13_3 < t200) = true := decide_eq_true c34
                      clear c34
                      by_cases c35 : 0 ≤ x13_3
                      · rw [if_pos c35] at H
                        have c35b0 : decide (0 ≤ x13_3) = true := decide_eq_true c35
                        clear c35
                        by_cases c36 : x13_3 < (t196.length : Int)
                        · rw [if_pos c36] at H
                          have c36b0 : decide (x13_3 < (t196.length : Int)) = true := decide_eq_true c36
                          clear c36
                          replace H := Option.bind_eq_some_iff.mp H
                          obtain ⟨⟨t202, t203⟩, A370, H⟩ := H
                          replace H : (if t203 = 0 then (laws_FnStreams.l0 k3 t196 t199 t200 t202 (wrap64 (x13_3 + 1))) else (none)) = some r := H
                          have A37 := Aside0.mk A370
                          clear A370
                          by_cases c38 : t203 = 0
                          · rw [if_pos c38] at H
                            have c38b0 : (t203 == 0) = true := beq_iff_eq.mpr c38
                            have c38b1 : (t203 != 0) = false := bne_eq_false_iff_eq.mpr c38
                            clear c38
                            have H' := Aside0.mk H
                            clear H
                            have p201 : 0 ≤ (x13_3 : Int) := of_decide_eq_true (by first | (with_reducible assumption) | assumption)
                            have q201 : x13_3 < (t196.length : Int) := of_decide_eq_true (by first | (with_reducible assumption) | assumption)
                            obtain ⟨ad201, e201, hx201_0⟩ := Kd.at_int (Kd.R_reads' HO_9.out).2.2 x13_3 p201 q201
                            cases e201
                            replace p201 := eq_true p201
                            replace q201 := eq_true q201
                            go_wp2_with (first | ((with_reducible refine gate_callee (f := 11) rfl ?_); refine goesL_ (some 103) rfl rfl Try.func11 (by kernel_rfl) rfl #[.int .i64 x12_3, .int .i64 (rd t196 x13_3)] rfl (by (try simp only [List.map_toArray, List.map_cons, List.map_nil]); first | done | rfl | (simp only [List.length_drop, List.length_take]; rfl)) ?_; (with_reducible refine (impl_StreamStep.calls k3 x12_3 (rd t196 x13_3) t202 t203 _ A37.out).mono ?_); rintro e w' ⟨rfl, ⟨nd, rfl⟩⟩; refine ⟨_, rfl, ?_⟩))
                            go_roundg k3
                            case measure => have := HJ6.out; have := HJ18.out; have := HK3.out; omega
                            case rel => exact ⟨(t202), (wrap64 (x13_3 + 1)), (by first | rfl | (simp; done) | (simp [*]; done)), (by first | rfl | (simp; done) | (simp [*]; done)), H', ⟨by have := HJ6.out; have := HJ18.out; have := HK3.out; omega⟩, ⟨by (with_reducible repeat (first | apply Kd.R_alloc | apply Kd.R_drewN | apply Kd.R_drew)); exact HO_9.out⟩, ⟨by repeat (first | (with_reducible first | exact HB.out | apply below_alloc | apply pw_below_drewN | apply below_drew1) | exact HB.out)⟩⟩
                          · rw [if_neg c38] at H
                            exact absurd H (by simp)
                        · rw [if_neg c36] at H
                          exact absurd H (by simp)
                      · rw [if_neg c35] at H
                        exact absurd H (by simp)
                    · rw [if_neg c34] at H
                      have c34b0 : decide (x13_3 < t200) = false := decide_eq_false c34
                      clear c34
                      by_cases c39 : t200 < (t196.length : Int)
                      · rw [if_pos c39] at H
                        have c39b0 : decide (t200 < (t196.length : Int)) = true := decide_eq_true c39
                        clear c39
                        by_cases c40 : 0 ≤ t200
                        · rw [if_pos c40] at H
                          have c40b0 : decide (0 ≤ t200) = true := decide_eq_true c40
                          clear c40
                          replace H := Option.bind_eq_some_iff.mp H
                          obtain ⟨⟨t205, t206⟩, A410, H⟩ := H
                          replace H : (if t206 = 0 then (none) else (if x12_3 = t199 then (if t200 ≥ 0 then (some (decide (t200 ≤ (t196.length : Int)))) else (none)) else (none))) = some r := H
                          have A41 := Aside0.mk A410
                          clear A410
                          by_cases c42 : t206 = 0
                          · rw [if_pos c42] at H
                            exact absurd H (by simp)
                          · rw [if_neg c42] at H
                            have c42b0 : (t206 == 0) = false := beq_eq_false_iff_ne.mpr c42
                            have c42b1 : (t206 != 0) = true := bne_iff_ne.mpr c42
                            by_cases c43 : x12_3 = t199
                            · rw [if_pos c43] at H
                              have c43b0 : (x12_3 == t199) = true := beq_iff_eq.mpr c43
                              have c43b1 : (x12_3 != t199) = false := bne_eq_false_iff_eq.mpr c43
                              clear c43
                              by_cases c44 : t200 ≥ 0
                              · rw [if_pos c44] at H
                                have c44b0 : decide (0 ≤ t200) = true := decide_eq_true c44
                                clear c44
                                obtain rfl := Option.some.inj H
                                have p204 : 0 ≤ (t200 : Int) := of_decide_eq_true (by first | (with_reducible assumption) | assumption)
                                have q204 : t200 < (t196.length : Int) := of_decide_eq_true (by first | (with_reducible assumption) | assumption)
                                obtain ⟨ad204, e204, hx204_0⟩ := Kd.at_int (Kd.R_reads' HO_9.out).2.2 t200 p204 q204
                                cases e204
                                replace p204 := eq_true p204
                                replace q204 := eq_true q204
                                go_wp2_with (first | ((with_reducible refine gate_callee (f := 11) rfl ?_); refine goesL_ (some 119) rfl rfl Try.func11 (by kernel_rfl) rfl #[.int .i64 x12_3, .int .i64 (rd t196 t200)] rfl (by (try simp only [List.map_toArray, List.map_cons, List.map_nil]); first | done | rfl | (simp only [List.length_drop, List.length_take]; rfl)) ?_; (with_reducible refine (impl_StreamStep.calls k3 x12_3 (rd t196 t200) t205 t206 _ A41.out).mono ?_); rintro e w' ⟨rfl, ⟨nd, rfl⟩⟩; refine ⟨_, rfl, ?_⟩))
                                go_ret
                                exact ⟨by first | rfl | (simp [errW_none, errW_some] <;> rfl) | (simp [*, errW_none, errW_some] <;> rfl), by repeat (first | (with_reducible first | exact HB.out | apply below_alloc | apply pw_below_drewN | apply below_drew1) | exact HB.out)⟩
                              · rw [if_neg c44] at H
                                exact absurd H (by simp)
                            · rw [if_neg c43] at H
                              exact absurd H (by simp)
                        · rw [if_neg c40] at H
                          exact absurd H (by simp)
                      · rw [if_neg c39] at H
                        have c39b0 : decide (t200 < (t196.length : Int)) = false := decide_eq_false c39
                        clear c39
                        by_cases c45 : x12_3 = t199
                        · rw [if_pos c45] at H
                          have c45b0 : (x12_3 == t199) = true := beq_iff_eq.mpr c45
                          have c45b1 : (x12_3 != t199) = false := bne_eq_false_iff_eq.mpr c45
                          clear c45
                          by_cases c46 : t200 ≥ 0
                          · rw [if_pos c46] at H
                            have c46b0 : decide (0 ≤ t200) = true := decide_eq_true c46
                            clear c46
                            obtain rfl := Option.some.inj H
                            go_wp2
                            go_ret
                            exact ⟨by first | rfl | (simp [errW_none, errW_some] <;> rfl) | (simp [*, errW_none, errW_some] <;> rfl), by repeat (first | (with_reducible first | exact HB.out | apply below_alloc | apply pw_below_drewN | apply below_drew1) | exact HB.out)⟩
                          · rw [if_neg c46] at H
                            exact absurd H (by simp)
                        · rw [if_neg c45] at H
                          exact absurd H (by simp)

end Go.Proofs.Ytjbecmaibifmlaa.QFnStreams
