import Derived.Test.YtbkpmljdmlhmhaaOR
import Derived.Test.YtbkpmljdmlhmhaaU12
namespace Go.Proofs.Ytbkpmljdmlhmhaa
open Go Go.AM Ty
set_option maxRecDepth 100000
set_option maxHeartbeats 4000000
set_option linter.unusedVariables false
set_option linter.unusedSimpArgs false
attribute [local irreducible] aw aops aopsD wpo wpoL condW guardW thenQ blockQ finQ Le AGood
theorem foldM_ok : ∀ (rs : List Rc) {l u : List Upp} {B : Nat}, foldM l rs = some u → l.length ≤ 10 → (∀ x ∈ l, x.d.length ≤ B) → u.length ≤ 10 ∧ ∀ x ∈ u, x.d.length ≤ B + sumD rs
  | [], l, u, B, h, h1, h2 => by
    unfold foldM at h
    injection h with h
    subst h
    exact ⟨h1, fun x hx => Nat.le_trans (h2 x hx) (Nat.le_add_right _ _)⟩
  | r :: rs, l, u, B, h, h1, h2 => by
    unfold foldM at h
    split at h
    · cases h
    · rename_i l' he
      obtain ⟨a, b⟩ := foldM_ok rs h (oneM_len he h1) (oneM_d he h2)
      refine ⟨a, fun x hx => ?_⟩
      have := b x hx
      unfold sumD at this ⊢
      simp only [List.map_cons, List.sum_cons]
      omega
theorem foldR_eq (M : Option (List Upp)) : foldR M = .tup [.row 4 (M.getD []).length (uT (M.getD [])), .bool M.isSome] := by
  cases M <;> rfl
theorem upM_small (B : Nat) : ∀ l : List Upp, (∀ x ∈ l, x.d.length ≤ B) → (l.map upM).sum ≤ l.length * (3 + B) := by
  intro l
  induction l with
  | nil => intro _; simp
  | cons r l ih =>
    intro h
    have h1 := h r (by simp)
    have h2 := ih (fun x hx => h x (by simp [hx]))
    simp only [List.map_cons, List.sum_cons, List.length_cons, upM] at *
    rw [Nat.add_mul]
    omega
theorem rcM_small : ∀ l : List Rc, (l.map rcM).sum ≤ 5 * ((l.map (fun x => x.s.size + x.d.length)).sum + l.length) := by
  intro l
  induction l with
  | nil => simp
  | cons x l ih => simp only [List.map_cons, List.sum_cons, List.length_cons, rcM] at *; omega
theorem sumD_small : ∀ l : List Rc, sumD l ≤ (l.map (fun x => x.s.size + x.d.length)).sum := by
  intro l
  unfold sumD
  induction l with
  | nil => simp
  | cons x l ih => simp only [List.map_cons, List.sum_cons] at *; omega
attribute [local irreducible] szM foldM kAll
theorem law_FnExactFoldRecs (l : List Rc) (h : bdL rcB l) : AGood e.P 9 [.ro (.row 6 l.length (rT l))] (.bool true) [.keep] := by
  have c1 := szRecS l rfl 1048576 (by decide) h.1 h.2
  rcases Int.lt_or_le (szM szRc 1048576 l) 0 with hneg | hpos
  · refine agood eok (fn := Try.f9) (by kernel_rfl) (by decide) rfl (by kernel_rfl) (by first | trivial | exact bT_plain _ | (simp [Tr.okR, Tr.okRL, Tr.plainL, Tr.plain, cells1, Tr.cellB, bT_plain, PB.okRL, PB.okR]; done) | (simp [Tr.okR, Tr.okRL, Tr.plainL, Tr.plain, cells1, Tr.cellB, PB.okRL, PB.okR, bT_plain, sT_plain, oT_plain, nT_plain, uT_plain, rT_plain]; done)) (by first | trivial | exact bT_plain _ | (simp [Tr.okR, Tr.okRL, Tr.plainL, Tr.plain, cells1, Tr.cellB, bT_plain, PB.okRL, PB.okR]; done) | (simp [Tr.okR, Tr.okRL, Tr.plainL, Tr.plain, cells1, Tr.cellB, PB.okRL, PB.okR, bT_plain, sT_plain, oT_plain, nT_plain, uT_plain, rT_plain]; done)) ?_
    have hc : decide (szM szRc 1048576 l < 0) = true := by simpa using hneg
    repeat' (first | refine o_cons ?_ | refine w_ok rfl ?_ | refine w_call rfl (c1) ?_ | refine o_nil ?_ | refine q_then ?_ | refine sq ?_ | refine aw_seq ?_ | refine aw_reg ?_ | refine w_pT rfl (by first | assumption | rfl) rfl ?_ | refine w_pF rfl (by first | assumption | rfl) rfl ?_ | refine o_y rfl (by first | assumption | rfl) ?_ | refine o_nT rfl (by first | assumption | rfl) ?_ | refine o_nF rfl (by first | assumption | rfl) ?_ | refine o_nU rfl ?_ | refine aw_cT rfl (by first | assumption | rfl) ?_ | refine aw_cF rfl (by first | assumption | rfl) ?_ | refine o_gT rfl (fun h => ?_) (fun h => ?_) | refine o_gF rfl (fun h => ?_) (fun h => ?_) | refine aw_cond rfl (fun h => ?_) (fun h => ?_) | refine aw_block ?_ | refine aw_skip ?_ | refine aw_ret ?_ | refine q_ret ?_ | refine q_blockN ?_ | refine q_blockR ?_ | refine aw_exit ?_ | refine q_exit ?_ | refine q_blockE ?_ | refine q_blockX (by decide) ?_ | refine fin_r rfl ?_ | (refine w_req rfl ?_ ?_; · first | assumption | exact trivial | exact ⟨rfl, rfl⟩ | exact rfl | exact bT_scal _ | exact bT_ints _ | exact bT_plain _ | exact sT_plain _ | exact sT_scal _ | exact oT_plain _ | exact oT_scal _ | exact nT_scal _ | exact uT_plain _ | exact rT_plain _ | exact ⟨[_], rfl⟩ | (unfold maxL; omega) | (simp [Tr.plainL, Tr.plain]; done) | (simp [scal, Tr.isSc]; done) | (simp_all <;> omega)) | (refine w_look rfl (el_bi ?_) ?_; · (simp_all <;> omega)) | refine w_look rfl (bT_app _ _) ?_ | refine w_look rfl (nil_bT _) ?_ | refine w_look rfl (nil_snoc _) ?_ | refine w_look rfl (nil_snoc2 _ _) ?_ | refine w_look rfl (bT_snoc _ _) ?_ | refine w_look rfl (bT_snoc2 _ _ _) ?_ | refine w_look rfl (bT_cut _ _ _) ?_ | (refine w_look rfl (upEl_bi ?_) ?_; · (first | omega | (simp only [decide_eq_true_eq, decide_eq_false_iff_not, Int.not_lt, Int.not_le, Bool.not_eq_true', Bool.not_eq_false', gt_iff_lt, ge_iff_le] at *; omega) | (simp_all <;> omega)); skip) | refine w_look (l' := _ :: _) rfl rfl ?_ | refine w_look (l' := []) rfl rfl ?_ | refine w_req rfl ?_ ?_ | refine w_pick rfl (fun b => ?_))
    rfl
  · have hc : decide (szM szRc 1048576 l < 0) = false := by simpa using hpos
    have ht := szM_takes szRc_takes 1048576 l (by decide) hpos
    simp only at ht
    have hsum : (l.map (fun x => x.s.size + x.d.length)).sum + l.length ≤ 1048576 := by omega
    have hm : ∀ x ∈ l, x.s.size + x.d.length ≤ 1048576 := fun x hx => by
      have := sum_le_of_mem (m := fun x : Rc => x.s.size + x.d.length) hx
      omega
    have hl : l.length ≤ 1048576 := by omega
    have hd : ∀ r ∈ l, r.d.length ≤ 1048576 := fun r hr => by have := hm r hr; omega
    have hd2 : ∀ r ∈ l, r.d.length ≤ 4294967296 := fun r hr => by have := hm r hr; omega
    have hsd := sumD_small l
    have c2 := toRecS l rfl hl hd
    have c3 := foldS l rfl (by omega) (by omega)
    have c4 := foldI l rfl (by omega) (by omega)
    rw [foldR_eq] at c3 c4
    have hu : ((foldM [] l).getD []).length ≤ 10 ∧ ∀ x ∈ (foldM [] l).getD [], x.d.length ≤ 1048576 := by
      cases hM : foldM [] l with
      | none => exact ⟨Nat.zero_le _, fun x hx => by cases hx⟩
      | some u =>
        obtain ⟨a, b⟩ := foldM_ok l (B := 0) hM (Nat.zero_le _) (fun x hx => by cases hx)
        exact ⟨a, fun x hx => by have := b x hx; omega⟩
    generalize (foldM [] l).getD [] = u at c3 c4 hu
    generalize (foldM [] l).isSome = b at c3 c4
    obtain ⟨hul, hud⟩ := hu
    have hud2 : ∀ r ∈ u, r.d.length ≤ 4294967296 := fun r hr => by have := hud r hr; omega
    have c5 := eqUpS u rfl rfl (by omega) hud2
    have c6 := eqRecS l rfl rfl (by omega) hd2
    have hk : (0 : Int) ≤ 1 ∧ kAll rcM 1 l ≤ 1000000000000 := by
      have := rcM_small l
      unfold kAll
      omega
    have hk2 : (0 : Int) ≤ 1 ∧ kAll upM 1 u ≤ 1000000000000 := by
      have := upM_small 1048576 u hud
      unfold kAll
      omega
    have c7 := markRecS l rfl 1 hk hl hd2
    have c8 := markUpS u rfl 1 hk2 (by omega) hud2
    have c9 := heldUpS u rfl 1 hk2 (by omega) hud2
    have k1 : decide (kAll rcM 1 l < 0) = false := by
      have : 1 ≤ kAll rcM 1 l := by unfold kAll; omega
      simp; omega
    have k2 : decide (kAll upM 1 u < 0) = false := by
      have : 1 ≤ kAll upM 1 u := by unfold kAll; omega
      simp; omega
    have kb : (b != b) = false := by cases b <;> rfl
    refine agood eok (fn := Try.f9) (by kernel_rfl) (by decide) rfl (by kernel_rfl) (by first | trivial | exact bT_plain _ | (simp [Tr.okR, Tr.okRL, Tr.plainL, Tr.plain, cells1, Tr.cellB, bT_plain, PB.okRL, PB.okR]; done) | (simp [Tr.okR, Tr.okRL, Tr.plainL, Tr.plain, cells1, Tr.cellB, PB.okRL, PB.okR, bT_plain, sT_plain, oT_plain, nT_plain, uT_plain, rT_plain]; done)) (by first | trivial | exact bT_plain _ | (simp [Tr.okR, Tr.okRL, Tr.plainL, Tr.plain, cells1, Tr.cellB, bT_plain, PB.okRL, PB.okR]; done) | (simp [Tr.okR, Tr.okRL, Tr.plainL, Tr.plain, cells1, Tr.cellB, PB.okRL, PB.okR, bT_plain, sT_plain, oT_plain, nT_plain, uT_plain, rT_plain]; done)) ?_
    repeat' (first | refine o_cons ?_ | refine w_ok rfl ?_ | refine w_call rfl (c1) ?_ | refine w_call rfl (c2) ?_ | refine w_call rfl (c3) ?_ | refine w_call rfl (c4) ?_ | refine w_call rfl (c5) ?_ | refine w_call rfl (c6) ?_ | refine w_call rfl (c7) ?_ | refine w_call rfl (c8) ?_ | refine w_call rfl (c9) ?_ | refine o_nil ?_ | refine q_then ?_ | refine sq ?_ | refine aw_seq ?_ | refine aw_reg ?_ | refine w_pT rfl (by first | assumption | rfl) rfl ?_ | refine w_pF rfl (by first | assumption | rfl) rfl ?_ | refine o_y rfl (by first | assumption | rfl) ?_ | refine o_nT rfl (by first | assumption | rfl) ?_ | refine o_nF rfl (by first | assumption | rfl) ?_ | refine o_nU rfl ?_ | refine aw_cT rfl (by first | assumption | rfl) ?_ | refine aw_cF rfl (by first | assumption | rfl) ?_ | refine o_gT rfl (fun h => ?_) (fun h => ?_) | refine o_gF rfl (fun h => ?_) (fun h => ?_) | refine aw_cond rfl (fun h => ?_) (fun h => ?_) | refine aw_block ?_ | refine aw_skip ?_ | refine aw_ret ?_ | refine q_ret ?_ | refine q_blockN ?_ | refine q_blockR ?_ | refine aw_exit ?_ | refine q_exit ?_ | refine q_blockE ?_ | refine q_blockX (by decide) ?_ | refine fin_r rfl ?_ | (refine w_req rfl ?_ ?_; · first | assumption | exact trivial | exact ⟨rfl, rfl⟩ | exact rfl | exact bT_scal _ | exact bT_ints _ | exact bT_plain _ | exact sT_plain _ | exact sT_scal _ | exact oT_plain _ | exact oT_scal _ | exact nT_scal _ | exact uT_plain _ | exact rT_plain _ | exact ⟨[_], rfl⟩ | (unfold maxL; omega) | (simp [Tr.plainL, Tr.plain]; done) | (simp [scal, Tr.isSc]; done) | (simp_all <;> omega)) | (refine w_look rfl (el_bi ?_) ?_; · (simp_all <;> omega)) | refine w_look rfl (bT_app _ _) ?_ | refine w_look rfl (nil_bT _) ?_ | refine w_look rfl (nil_snoc _) ?_ | refine w_look rfl (nil_snoc2 _ _) ?_ | refine w_look rfl (bT_snoc _ _) ?_ | refine w_look rfl (bT_snoc2 _ _ _) ?_ | refine w_look rfl (bT_cut _ _ _) ?_ | (refine w_look rfl (upEl_bi ?_) ?_; · (first | omega | (simp only [decide_eq_true_eq, decide_eq_false_iff_not, Int.not_lt, Int.not_le, Bool.not_eq_true', Bool.not_eq_false', gt_iff_lt, ge_iff_le] at *; omega) | (simp_all <;> omega)); skip) | refine w_look (l' := _ :: _) rfl rfl ?_ | refine w_look (l' := []) rfl rfl ?_ | refine w_req rfl ?_ ?_ | refine w_pick rfl (fun b => ?_) | refine l_call rfl (c1) ?_ | refine l_call rfl (c2) ?_ | refine l_call rfl (c3) ?_ | refine l_call rfl (c4) ?_ | refine l_call rfl (c5) ?_ | refine l_call rfl (c6) ?_ | refine l_call rfl (c7) ?_ | refine l_call rfl (c8) ?_ | refine l_call rfl (c9) ?_ | refine aw_drw (by kernel_rfl) ?_ | refine d_cons ?_ | refine l_ok rfl ?_ | refine d_nil (by kernel_rfl) ?_ | refine d_y rfl (by first | assumption | rfl) ?_ | refine d_nT rfl (by first | assumption | rfl) ?_ | refine d_nF rfl (by first | assumption | rfl) ?_ | refine d_nU rfl ?_ | refine l_pT rfl (by first | assumption | rfl) rfl ?_ | refine l_pF rfl (by first | assumption | rfl) rfl ?_ | refine d_gT rfl (fun h => ?_) (fun h => ?_) | refine d_gF rfl (fun h => ?_) (fun h => ?_) | (refine l_req rfl ?_ ?_; · first | assumption | exact trivial | exact ⟨rfl, rfl⟩ | exact rfl | exact bT_scal _ | exact bT_ints _ | exact bT_plain _ | exact sT_plain _ | exact sT_scal _ | exact oT_plain _ | exact oT_scal _ | exact nT_scal _ | exact uT_plain _ | exact rT_plain _ | exact ⟨[_], rfl⟩ | (unfold maxL; omega) | (simp [Tr.plainL, Tr.plain]; done) | (simp [scal, Tr.isSc]; done) | (simp_all <;> omega)) | (refine l_look rfl (el_bi ?_) ?_; · (simp_all <;> omega)) | refine l_look rfl (bT_app _ _) ?_ | refine l_look rfl (nil_bT _) ?_ | refine l_look rfl (nil_snoc _) ?_ | refine l_look rfl (nil_snoc2 _ _) ?_ | refine l_look rfl (bT_snoc _ _) ?_ | refine l_look rfl (bT_snoc2 _ _ _) ?_ | refine l_look rfl (bT_cut _ _ _) ?_ | (refine l_look rfl (upEl_bi ?_) ?_; · (first | omega | (simp only [decide_eq_true_eq, decide_eq_false_iff_not, Int.not_lt, Int.not_le, Bool.not_eq_true', Bool.not_eq_false', gt_iff_lt, ge_iff_le] at *; omega) | (simp_all <;> omega)); skip) | refine l_look (l' := _ :: _) rfl rfl ?_ | refine l_look (l' := []) rfl rfl ?_ | refine l_req rfl ?_ ?_)
    all_goals first | rfl | (exfalso; simp at h)
end Go.Proofs.Ytbkpmljdmlhmhaa
