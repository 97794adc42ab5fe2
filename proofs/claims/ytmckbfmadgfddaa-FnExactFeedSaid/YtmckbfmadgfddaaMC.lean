/- AN ABSTRACT MACHINE, 16: after a call: the world as it left it; what it gives, what it gives back; a call. No condition of its own. -/
import Derived.Test.YtmckbfmadgfddaaMB
set_option linter.unusedVariables false
set_option linter.unusedSimpArgs false
namespace Go.AM
open Go AM

theorem upd_self {α : Type} (f : Nat → α) (k : Nat) : upd f k (f k) = f := by
  funext j; unfold upd; split
  · subst_vars; rfl
  · rfl
mutual
theorem PBok.lt {h : Heap} {T : List Value} : ∀ (p : PB) {v F}, PBok h T p v F → ∀ k, k ∈ F → k < h.size
  | .keep, v, F, H | .gone, v, F, H => by simp only [PBok] at H; simp [H]
  | .own t, v, F, H => by simp only [PBok] at H; exact Ow.lt H.2
  | .box cs, v, F, H => by
    simp only [PBok] at H
    obtain ⟨g, cur, e, fr, G, _, h2, _, _, h5, rfl⟩ := H
    intro k hk
    rcases List.mem_cons.1 hk with rfl | hk
    · exact lt_of_get h2
    · exact OwL.lt h5 k hk
  | .agg ps, v, F, H => by
    simp only [PBok] at H
    obtain ⟨vs, _, h2⟩ := H
    exact PBokL.lt ps h2
theorem PBokL.lt {h : Heap} {T : List Value} : ∀ (ps : List PB) {vs F}, PBokL h T ps vs F → ∀ k, k ∈ F → k < h.size
  | [], vs, F, H => by simp only [PBokL] at H; simp [H.2]
  | p :: ps, vs, F, H => by
    simp only [PBokL] at H
    obtain ⟨v, us, F1, F2, rfl, h1, h2, rfl⟩ := H
    intro k hk
    rcases List.mem_append.1 hk with hk | hk
    · exact PBok.lt p h1 k hk
    · exact PBokL.lt ps h2 k hk
end

section
variable {P : Program} {c : Ctx} {hd : Nat → Value} {fp : Nat → List Nat} {m m' : Mem} {w w' : World} {X Y F G : List Nat} {u : Nat → Bool} {A W : List Nat} {τ : TTab} {α : Type} {y : α}

/-- the world as a call left it -/
theorem HM.called (H : HM c hd fp m w (F ++ X)) (hf : Fr w F w' G) (hn : G.Nodup) (hl : ∀ k, k ∈ G → k < w'.heap.size) : HM c hd fp m w' (G ++ X) ∧ Evo hd m w.heap hd m w'.heap := by
  have far : ∀ nm k, k ∈ fp nm → w'.heap[k]? = w.heap[k]? := fun nm k hk => hf.same k (H.lt hk) (fun h => H.xd nm k hk (List.mem_append_left _ h))
  have E := H.evo_heap (h' := w'.heap) far
  have hXlt : ∀ k, k ∈ X → k < w.heap.size := fun k hk => (H.xreg k (List.mem_append_right _ hk)).2
  have hGX : ∀ k, k ∈ G → k ∉ X := fun k hk hx => by
    rcases hf.own k hk with h | h
    · exact (List.nodup_append.1 H.xnd).2.2 k h k hx rfl
    · have := hXlt k hx; omega
  refine ⟨{ H with
    blk := fun nm b hb => BlkOk.frame H E hb rfl (far nm)
    xnd := List.nodup_append.2 ⟨hn, (List.nodup_append.1 H.xnd).2.1, fun a ha b hb he => hGX a ha (he ▸ hb)⟩
    xd := fun nm k hk hx => ?_
    xreg := fun k hk => ?_
    os := hf.os.trans H.os
    tape := hf.tape.trans H.tape
    output := hf.output.trans H.output
    size := Nat.le_trans H.size hf.size
    same := fun k hk => (hf.same k (Nat.lt_of_lt_of_le hk.2 H.size) (fun h => ?_)).trans (H.same k hk) }, E⟩
  · rcases List.mem_append.1 hx with h | h
    · rcases hf.own k h with h1 | h1
      · exact H.xd nm k hk (List.mem_append_left _ h1)
      · have := H.lt hk; omega
    · exact H.xd nm k hk (List.mem_append_right _ h)
  · rcases List.mem_append.1 hk with h | h
    · refine ⟨?_, hl k h⟩
      rcases hf.own k h with h1 | h1
      · exact (H.xreg k (List.mem_append_left _ h1)).1
      · exact .inr (Nat.le_trans H.size h1)
    · exact ⟨(H.xreg k (List.mem_append_right _ h)).1, Nat.lt_of_lt_of_le (hXlt k h) hf.size⟩
  · rcases (H.xreg k (List.mem_append_left _ h)).1 with h1 | h1
    · exact hk.1 h1
    · have := hk.2; omega

theorem exT_ok {T : List Value} {tgs : List AV} {D j : Nat} {old : AV} {t : Tr} {v : Value} {k : Nat → AV → AM α} (H : HM c hd fp m w (Y ++ X)) (ho : Ow w.heap T t v Y) (hr : t.okR) (h1 : v.oneCell' = true) (hT : AVokL c hd m w.heap tgs T) (hE : Ex P (exT tgs D j old t k) u m y m' A W) :
    ∃ j' x hd1 m1 fp1 A1 W1, Ex P (k j' x) u m1 y m' A1 W1 ∧ HM c hd1 fp1 m1 w X ∧ AVok c hd1 m1 w.heap x v ∧ Evo hd m w.heap hd1 m1 w.heap := by
  have put : ∀ {nm g : Nat} {sz n : Nat} {cs : List Tr}, t = .row sz n cs → (∀ b0, m nm = some b0 → b0.gen < g) → HM c (upd hd nm v) (upd fp nm Y) (upd m nm (some (.row g 0 sz n cs))) w X ∧ AVok c (upd hd nm v) (upd m nm (some (.row g 0 sz n cs))) w.heap (.own nm g) v ∧ Evo hd m w.heap (upd hd nm v) (upd m nm (some (.row g 0 sz n cs))) w.heap := by
    intro nm g sz n cs ht hg
    subst ht
    have hnd := (List.nodup_append.1 H.xnd).1
    have := HM.step (w := w) (w' := w) (Y := Y) (X := X) H nm (blk := .row g 0 sz n cs) (v := v) (F := Y) (Y' := []) rfl rfl rfl (Nat.le_refl _) (fun _ _ _ _ => rfl) (by simpa using hnd)
      (fun k hk => .inr (.inl (by simpa using hk))) (fun k hk => by cases hk)
      (fun b0 h0 => ⟨Nat.le_of_lt (hg b0 h0), fun he => absurd he (Nat.ne_of_lt (hg b0 h0))⟩)
      (fun E => by
        simp only [BlkOk, upd_same]
        exact Ow.plainT _ (by simpa only [Tr.plain, Tr.okR] using hr) ho)
    exact ⟨by simpa using this.1, own_new h1, this.2⟩
  unfold exT at hE
  split at hE
  · exact ⟨_, _, hd, m, fp, A, W, hE, H.leave, by simp only [Ow] at ho; simp only [AVok]; exact ho.1, Evo.refl _ _ _⟩
  · exact ⟨_, _, hd, m, fp, A, W, hE, H.leave, by simp only [Ow] at ho; simp only [AVok]; exact ho.1, Evo.refl _ _ _⟩
  · exact ⟨_, _, hd, m, fp, A, W, hE, H.leave, by simp only [Ow] at ho; simp only [AVok]; exact ho.1, Evo.refl _ _ _⟩
  · split at hE
    · rename_i nm g
      simp only [Ex] at hE
      obtain ⟨B, rfl, hE⟩ := hE
      cases hm : m nm with
      | none => rw [hm] at hE; simp only [Ex] at hE
      | some b =>
        rw [hm] at hE
        cases b with
        | lent g' v' sz' n' =>
          simp only at hE
          split at hE
          · rename_i hg
            subst hg
            simp only [Ex] at hE
            obtain ⟨B2, V, _, _, hE⟩ := hE
            obtain ⟨p1, p2, p3⟩ := put (nm := nm) (g := g' + 1) rfl (fun b0 h0 => by rw [hm] at h0; injection h0 with h0; subst h0; exact Nat.lt_succ_self _)
            exact ⟨_, _, _, _, _, _, _, hE, p1, p2, p3⟩
          · simp only [Ex] at hE
        | _ => simp only [Ex] at hE
    · obtain ⟨g, B, V, hE, hg⟩ := mk_ok hE
      obtain ⟨p1, p2, p3⟩ := put (nm := D + j) (g := g) rfl hg
      exact ⟨_, _, _, _, _, _, _, hE, p1, p2, p3⟩
  · rename_i i
    simp only [Ow] at ho
    refine ⟨_, _, hd, m, fp, A, W, hE, H.leave, ?_, Evo.refl _ _ _⟩
    rw [List.getD_eq_getElem?_getD]
    cases ht : tgs[i]? with
    | none => simp [AVok]
    | some x =>
      obtain ⟨v', hv, hx⟩ := AVokL.get hT ht
      rw [ho.1] at hv; injection hv with hv
      subst hv
      exact hx
  · exact ⟨_, _, hd, m, fp, A, W, hE, H.leave, by simp [AVok], Evo.refl _ _ _⟩

theorem exTL_ok {P : Program} {c : Ctx} {w : World} {α : Type} {y : α} {u : Nat → Bool} {m' : Mem} {T : List Value} {tgs : List AV} {D : Nat} : ∀ (ts : List Tr) (j : Nat) (os : List AV) {hd : Nat → Value} {fp : Nat → List Nat} {m : Mem} {X Y A W : List Nat} {vs : List Value} {k : Nat → List AV → AM α}, HM c hd fp m w (Y ++ X) → OwL w.heap T ts vs Y → Tr.okRL ts → (∀ v, v ∈ vs → v.oneCell' = true) → AVokL c hd m w.heap tgs T → Ex P (exTL tgs D j os ts k) u m y m' A W →
    ∃ j' xs hd1 m1 fp1 A1 W1, Ex P (k j' xs) u m1 y m' A1 W1 ∧ HM c hd1 fp1 m1 w X ∧ AVokL c hd1 m1 w.heap xs vs ∧ Evo hd m w.heap hd1 m1 w.heap
  | [], j, os, hd, fp, m, X, Y, A, W, vs, k, H, ho, hr, h1, hT, hE => by
    simp only [exTL] at hE
    simp only [OwL] at ho
    exact ⟨_, _, hd, m, fp, A, W, hE, H.leave, by simp only [AVokL]; exact ho.1, Evo.refl _ _ _⟩
  | t :: ts, j, os, hd, fp, m, X, Y, A, W, vs, k, H, ho, hr, h1, hT, hE => by
    simp only [exTL] at hE
    simp only [OwL] at ho
    obtain ⟨v, us, F1, F2, rfl, o1, o2, rfl⟩ := ho
    simp only [Tr.okRL] at hr
    obtain ⟨j1, x, hd1, m1, fp1, A1, W1, e1, e2, e3, e4⟩ := exT_ok (Y := F1) (X := F2 ++ X) (by simpa using H) o1 hr.1 (h1 v (by simp)) hT hE
    obtain ⟨j2, xs, hd2, m2, fp2, A2, W2, q1, q2, q3, q4⟩ := exTL_ok ts j1 os.tail e2 o2 hr.2 (fun z hz => h1 z (by simp [hz])) (AVokL.evo e4 tgs hT) e1
    exact ⟨j2, x :: xs, hd2, m2, fp2, A2, W2, q1, q2, by simp only [AVokL]; exact ⟨v, us, rfl, AVok.evo q4 x e3, q3⟩, e4.trans q4⟩

theorem cells_one {h : Heap} {T : List Value} (ht : ∀ t, t ∈ T → t.oneCell' = true) : ∀ {cs : List Tr} {vs F}, cells1 cs → OwL h T cs vs F → ∀ v, v ∈ vs → v.oneCell' = true
  | [], vs, F, _, H => by simp only [OwL] at H; simp [H.1]
  | t :: ts, vs, F, h1, H => by
    simp only [OwL] at H
    obtain ⟨v, us, F1, F2, rfl, a, b, rfl⟩ := H
    intro z hz
    rcases List.mem_cons.1 hz with rfl | hz
    · exact Ow.oneCell (h1 t (by simp)) ht a
    · exact cells_one ht (fun t' h' => h1 t' (by simp [h'])) b z hz

theorem exR_ok {T : List Value} {tgs : List AV} {D j : Nat} {t : Tr} {v : Value} {k : Nat → AV → AM α} (ht : ∀ t, t ∈ T → t.oneCell' = true) (H : HM c hd fp m w (Y ++ X)) (ho : Ow w.heap T t v Y) (hr : t.okR) (hT : AVokL c hd m w.heap tgs T) (hE : Ex P (exR tgs D j t k) u m y m' A W) :
    ∃ j' x hd1 m1 fp1 A1 W1, Ex P (k j' x) u m1 y m' A1 W1 ∧ HM c hd1 fp1 m1 w X ∧ AVok c hd1 m1 w.heap x v ∧ Evo hd m w.heap hd1 m1 w.heap := by
  unfold exR at hE
  split at hE
  · rename_i cs
    simp only [Ow] at ho
    obtain ⟨vs, rfl, o2⟩ := ho
    simp only [Tr.okR] at hr
    have h1 := cells_one ht hr.2 o2
    obtain ⟨j2, xs, hd2, m2, fp2, A2, W2, q1, q2, q3, q4⟩ := exTL_ok cs j [] H o2 hr.1 h1 hT hE
    exact ⟨_, _, hd2, m2, fp2, A2, W2, q1, q2, by simp only [AVok]; exact ⟨vs, rfl, q3, h1⟩, q4⟩
  · rename_i t cs
    simp only [Ow] at ho
    obtain ⟨g, cur, e, fr, G, rfl, h2, h3, h4, h5, rfl⟩ := ho
    simp only [Tr.okR] at hr
    have h1 := cells_one ht h4 h5
    obtain ⟨j2, xs, hd2, m2, fp2, A2, W2, q1, q2, q3, q4⟩ := exTL_ok (Y := G) (X := g :: X) cs (j + 1) [] (H.pocket (by rw [List.cons_append]; exact List.perm_middle)) h5 hr h1 hT hE
    obtain ⟨g1, B, V, q1, hg⟩ := mk_ok q1
    have st := HM.step (w := w) (w' := w) (Y := [g]) (X := X) (by simpa using q2) (D + j) (blk := .box g1 t xs) (v := .pointer (some ⟨g, 0, none⟩)) (F := [g]) (Y' := []) rfl rfl rfl (Nat.le_refl _) (fun _ _ _ _ => rfl) (by simp)
      (fun k hk => .inr (.inl (by simpa using hk))) (fun k hk => by cases hk)
      (fun b0 h0 => ⟨Nat.le_of_lt (hg b0 h0), fun he => absurd he (Nat.ne_of_lt (hg b0 h0))⟩)
      (fun E => by
        simp only [BlkOk, upd_same]
        exact ⟨g, cur, e, fr, rfl, h2, h3, AVokL.evo E xs q3, h1, rfl⟩)
    exact ⟨_, _, _, _, _, _, _, q1, by simpa using st.1, ptr_new, q4.trans st.2⟩
  · have hc : ∀ {t : Tr} {v F}, t.cellB = true → Ow w.heap T t v F → v.oneCell' = true := fun h o => Ow.oneCell h ht o
    by_cases hcb : t.cellB = true
    · exact exT_ok H ho hr (hc hcb ho) hT hE
    · cases t <;> simp [Tr.cellB] at hcb
      case agg q1 q2 => exact (q1 _ rfl).elim
      case tup cs =>
        simp only [exT] at hE
        exact ⟨_, _, hd, m, fp, A, W, hE, H.leave, by simp [AVok], Evo.refl _ _ _⟩

theorem exRL_ok {P : Program} {c : Ctx} {w : World} {α : Type} {y : α} {u : Nat → Bool} {m' : Mem} {T : List Value} (ht : ∀ t, t ∈ T → t.oneCell' = true) {tgs : List AV} {D : Nat} : ∀ (ts : List Tr) (j : Nat) {hd : Nat → Value} {fp : Nat → List Nat} {m : Mem} {X Y A W : List Nat} {vs : List Value} {k : Nat → List AV → AM α}, HM c hd fp m w (Y ++ X) → OwL w.heap T ts vs Y → Tr.okRL ts → AVokL c hd m w.heap tgs T → Ex P (exRL tgs D j ts k) u m y m' A W →
    ∃ j' xs hd1 m1 fp1 A1 W1, Ex P (k j' xs) u m1 y m' A1 W1 ∧ HM c hd1 fp1 m1 w X ∧ AVokL c hd1 m1 w.heap xs vs ∧ Evo hd m w.heap hd1 m1 w.heap
  | [], j, hd, fp, m, X, Y, A, W, vs, k, H, ho, hr, hT, hE => by
    simp only [exRL] at hE
    simp only [OwL] at ho
    exact ⟨_, _, hd, m, fp, A, W, hE, H.leave, by simp only [AVokL]; exact ho.1, Evo.refl _ _ _⟩
  | t :: ts, j, hd, fp, m, X, Y, A, W, vs, k, H, ho, hr, hT, hE => by
    simp only [exRL] at hE
    simp only [OwL] at ho
    obtain ⟨v, us, F1, F2, rfl, o1, o2, rfl⟩ := ho
    simp only [Tr.okRL] at hr
    obtain ⟨j1, x, hd1, m1, fp1, A1, W1, e1, e2, e3, e4⟩ := exR_ok ht (Y := F1) (X := F2 ++ X) (by simpa using H) o1 hr.1 hT hE
    obtain ⟨j2, xs, hd2, m2, fp2, A2, W2, q1, q2, q3, q4⟩ := exRL_ok ht ts j1 e2 o2 hr.2 (AVokL.evo e4 tgs hT) e1
    exact ⟨j2, x :: xs, hd2, m2, fp2, A2, W2, q1, q2, by simp only [AVokL]; exact ⟨v, us, rfl, AVok.evo q4 x e3, q3⟩, e4.trans q4⟩

theorem exRes_ok {T : List Value} {tgs : List AV} {D j : Nat} {t : Tr} {v : Value} {k : Nat → AV → AM α} (ht : ∀ t, t ∈ T → t.oneCell' = true) (H : HM c hd fp m w (Y ++ X)) (ho : Ow w.heap T t v Y) (hr : t.okR) (hT : AVokL c hd m w.heap tgs T) (hE : Ex P (exRes tgs D j t k) u m y m' A W) :
    ∃ j' x hd1 m1 fp1 A1 W1, Ex P (k j' x) u m1 y m' A1 W1 ∧ HM c hd1 fp1 m1 w X ∧ AVok c hd1 m1 w.heap x v ∧ Evo hd m w.heap hd1 m1 w.heap := by
  unfold exRes at hE
  split at hE
  · simp only [Ow] at ho
    obtain ⟨vs, rfl, o2⟩ := ho
    simp only [Tr.okR] at hr
    obtain ⟨j2, xs, hd2, m2, fp2, A2, W2, q1, q2, q3, q4⟩ := exRL_ok ht _ j H o2 hr hT hE
    exact ⟨_, _, hd2, m2, fp2, A2, W2, q1, q2, by simp only [AVok]; exact ⟨vs, rfl, q3⟩, q4⟩
  · exact exR_ok ht H ho hr hT hE

/-! ### what was handed comes back -/
theorem bk1_ok {T : List Value} {b : Bk} {p : PB} {x : AV} {v : Value} {k : AM α} (H : HM c hd fp m w (Y ++ X)) (hp : PBok w.heap T p v Y) (hr : p.okR) (hx : AVok c hd m w.heap x v) (hb : BkFor b x) (hE : Ex P (bk1 b p k) u m y m' A W) :
    ∃ m1 fp1 A1 W1, Ex P k u m1 y m' A1 W1 ∧ HM c hd fp1 m1 w X ∧ Evo hd m w.heap hd m1 w.heap := by
  have hh : ∀ nm, upd hd nm (hd nm) = hd := fun nm => upd_self _ _
  have hnd := (List.nodup_append.1 H.xnd).1
  unfold bk1 at hE
  split at hE
  · rename_i nm g vv sz n sz' n' cs
    simp only [Ex] at hE
    obtain ⟨B, rfl, hE⟩ := hE
    cases hm : m nm with
    | none => rw [hm] at hE; simp only [Ex] at hE
    | some bb =>
      rw [hm] at hE
      cases bb with
      | lent g' v' sz2 n2 =>
        simp only at hE
        split at hE
        · rename_i hg
          obtain ⟨rfl, rfl, rfl, rfl⟩ := hg
          simp only [Ex] at hE
          obtain ⟨⟨rfl, rfl⟩, B2, V, _, _, hE⟩ := hE
          simp only [BkFor] at hb
          subst hb
          simp only [AVok] at hx
          obtain ⟨h1, bb, hb2, hg2, hk2⟩ := hx
          rw [hm] at hb2; injection hb2 with hb2; subst hb2
          have hv : v = hd nm := hk2 rfl
          simp only [PBok] at hp
          simp only [PB.okR, Tr.okR] at hr
          have st := HM.step (w := w) (w' := w) (Y := Y) (X := X) H nm (blk := .row g' (v' + 1) sz' n' cs) (v := hd nm) (F := Y) (Y' := []) rfl rfl rfl (Nat.le_refl _) (fun _ _ _ _ => rfl) (by simpa using hnd)
            (fun k hk => .inr (.inl (by simpa using hk))) (fun k hk => by cases hk)
            (fun b0 h0 => by rw [hm] at h0; injection h0 with h0; subst h0; exact ⟨Nat.le_refl _, fun _ => ⟨rfl, rfl, rfl, Nat.lt_succ_self _⟩⟩)
            (fun E => by
              simp only [BlkOk, upd_same]
              rw [← hv]
              exact Ow.plainT _ (by simpa only [Tr.plain] using hr) hp.2)
          rw [hh] at st
          exact ⟨_, _, _, _, hE, by simpa using st.1, st.2⟩
        · simp only [Ex] at hE
      | _ => simp only [Ex] at hE
  · exact ⟨m, fp, A, W, hE, H.leave, Evo.refl _ _ _⟩
  · rename_i nm g i j vv sz n sz' n' cs2
    simp only [Ex] at hE
    obtain ⟨B, rfl, hE⟩ := hE
    cases hm : m nm with
    | none => rw [hm] at hE; simp only [Ex] at hE
    | some bb =>
      rw [hm] at hE
      cases bb with
      | row g' v' szr nr cs =>
        simp only at hE
        split at hE
        · rename_i hg
          obtain ⟨rfl, rfl, rfl⟩ := hg
          simp only [Ex] at hE
          obtain ⟨rfl, hE⟩ := hE
          cases hL : (el cs szr i)[j]? with
          | none => rw [hL] at hE; simp only [Ex] at hE
          | some t =>
            rw [hL] at hE
            cases t <;> simp only [Ex] at hE
            case hole =>
              obtain ⟨B2, V, _, _, hE⟩ := hE
              simp only [BkFor] at hb
              subst hb
              simp only [AVok] at hx
              obtain ⟨h1, bb, hb2, hg2, hk2⟩ := hx
              rw [hm] at hb2; injection hb2 with hb2; subst hb2
              obtain ⟨_, h3⟩ := hk2 rfl
              obtain ⟨hi, hj, b, N, C, h6, h7⟩ := h3 rfl
              have hblk := H.blk nm _ hm
              simp only [BlkOk] at hblk
              obtain ⟨g0, cap, cur, e, fr, G, k1, k2, k3, k4, k5, k6, k7, k8⟩ := row_block hblk (by omega)
              have hl : cs.length = nr * szr ∧ cells1 cs := by simp only [Ow] at hblk; exact hblk.1
              have hbg : b = g0 := by rw [k1] at h6; injection h6 with h6; injection h6 with h6; injection h6 with h6; exact h6.symm
              subst hbg
              rw [cellAt_of k2] at h7
              have hle : (i + 1) * szr ≤ cs.length := by rw [hl.1]; exact Nat.mul_le_mul_right _ hi
              rw [upEl_set cs szr i j _ hj hle] at hE
              have hL2 : cs[i * szr + j]? = some .hole := by rw [← el_get cs szr i j hj]; exact hL
              obtain ⟨v0, G1, G2, q1, q2, q3, q4⟩ := OwL.set k7 hL2
              simp only [Ow] at q2
              obtain ⟨_, rfl⟩ := q2
              have hv : v0 = v := by
                rw [List.getElem?_take, if_pos (mul_add_lt hi hj), Array.getElem?_toList, h7] at q1
                injection q1 with q1; exact q1.symm
              subst hv
              simp only [PBok] at hp
              simp only [PB.okR, Tr.okR] at hr
              obtain ⟨F2, r1, r2⟩ := q4 (.row sz' n' cs2) v0 Y (Ow.plainT _ (by simpa only [Tr.plain] using hr) hp.2)
              have hset : (cur.toList.take (nr * szr)).set (i * szr + j) v0 = cur.toList.take (nr * szr) := by
                apply List.ext_getElem?
                intro x
                rw [List.getElem?_set]
                split
                · subst_vars
                  split
                  · exact q1.symm
                  · rename_i hh
                    rw [List.getElem?_eq_none (Nat.le_of_not_lt hh)] at q1; cases q1
                · rfl
              rw [hset] at r1
              have hnd2 := H.nd nm
              rw [k8] at hnd2
              have hGp : G.Perm G2 := by simpa using q3
              have hFp : F2.Perm (Y ++ G) := r2.trans (hGp.symm.append_left Y)
              have hYG : ∀ k, k ∈ Y → k ∉ b :: G := fun k hk hk2 => H.xd nm k (by rw [k8]; exact hk2) (List.mem_append_left _ hk)
              have st := HM.step (w := w) (w' := w) (Y := Y) (X := X) H nm (blk := .row g' (v' + 1) szr nr (cs.set (i * szr + j) (.row sz' n' cs2))) (v := hd nm) (F := b :: F2) (Y' := []) rfl rfl rfl (Nat.le_refl _) (fun _ _ _ _ => rfl)
                (by
                  rw [List.append_nil]
                  refine List.nodup_cons.2 ⟨fun hx => ?_, hFp.nodup_iff.2 (List.nodup_append.2 ⟨hnd, (List.nodup_cons.1 hnd2).2, fun a ha b' hb' he => hYG a ha (he ▸ List.mem_cons_of_mem _ hb')⟩)⟩
                  rcases List.mem_append.1 (hFp.mem_iff.1 hx) with h | h
                  · exact hYG b h (by simp)
                  · exact (List.nodup_cons.1 hnd2).1 h)
                (fun k hk => by
                  rw [List.append_nil] at hk
                  rcases List.mem_cons.1 hk with rfl | hk
                  · exact .inl (by rw [k8]; simp)
                  · rcases List.mem_append.1 (hFp.mem_iff.1 hk) with h | h
                    · exact .inr (.inl h)
                    · exact .inl (by rw [k8]; exact List.mem_cons_of_mem _ h))
                (fun k hk => by cases hk)
                (fun b0 h0 => by rw [hm] at h0; injection h0 with h0; subst h0; exact ⟨Nat.le_refl _, fun _ => ⟨rfl, rfl, rfl, Nat.le_succ _, fun hv => by omega⟩⟩)
                (fun E => by
                  simp only [BlkOk, upd_same, Ow]
                  refine ⟨⟨by rw [List.length_set]; exact hl.1, fun t ht => ?_⟩, .inr ⟨b, cap, cur, e, fr, F2, k1, k2, k3, k4, k5, k6, r1, rfl⟩⟩
                  rcases List.mem_or_eq_of_mem_set ht with h | h
                  · exact hl.2 t h
                  · subst h; rfl)
              rw [hh] at st
              exact ⟨_, _, _, _, hE, by simpa using st.1, st.2⟩
        · simp only [Ex] at hE
      | _ => simp only [Ex] at hE
  · rename_i nm g vv sz n
    simp only [Ex] at hE
    obtain ⟨B, rfl, hE⟩ := hE
    cases hm : m nm with
    | none => rw [hm] at hE; simp only [Ex] at hE
    | some bb =>
      rw [hm] at hE
      cases bb with
      | lent g' v' sz2 n2 =>
        simp only at hE
        split at hE
        · rename_i hg
          subst hg
          simp only [Ex] at hE
          obtain ⟨B2, V, _, _, hE⟩ := hE
          obtain ⟨o1, o2⟩ := H.leave.out hm (g := g') rfl
          exact ⟨_, _, _, _, hE, o1.leave, o2⟩
        · simp only [Ex] at hE
      | _ => simp only [Ex] at hE
  · exact ⟨m, fp, A, W, hE, H.leave, Evo.refl _ _ _⟩
  · simp only [Ex] at hE

theorem bk1L_ok {P : Program} {c : Ctx} {hd : Nat → Value} {w : World} {α : Type} {y : α} {u : Nat → Bool} {m' : Mem} {T : List Value} {k : AM α} : ∀ (bs : List Bk) (ps : List PB) (xs : List AV) {fp : Nat → List Nat} {m : Mem} {X Y A W : List Nat} {vs : List Value}, HM c hd fp m w (Y ++ X) → PBokL w.heap T ps vs Y → PB.okRL ps → AVokL c hd m w.heap xs vs → BkForL bs xs → Ex P (bk1L bs ps k) u m y m' A W →
    ∃ m1 fp1 A1 W1, Ex P k u m1 y m' A1 W1 ∧ HM c hd fp1 m1 w X ∧ Evo hd m w.heap hd m1 w.heap
  | [], [], xs, fp, m, X, Y, A, W, vs, H, hp, hr, hx, hb, hE => ⟨m, fp, A, W, by simpa only [bk1L] using hE, H.leave, Evo.refl _ _ _⟩
  | b :: bs, p :: ps, x :: xs, fp, m, X, Y, A, W, vs, H, hp, hr, hx, hb, hE => by
    simp only [bk1L] at hE
    simp only [PBokL] at hp
    simp only [PB.okRL] at hr
    simp only [BkForL] at hb
    simp only [AVokL] at hx
    obtain ⟨v, us, F1, F2, rfl, p1, p2, rfl⟩ := hp
    obtain ⟨v', us', e, x1, x2⟩ := hx
    injection e with e e'
    subst e; subst e'
    obtain ⟨m1, fp1, A1, W1, e1, e2, e3⟩ := bk1_ok (Y := F1) (X := F2 ++ X) (by simpa using H) p1 hr.1 x1 hb.1 hE
    obtain ⟨m2, fp2, A2, W2, q1, q2, q3⟩ := bk1L_ok bs ps xs e2 p2 hr.2 (AVokL.evo e3 xs x2) hb.2 e1
    exact ⟨m2, fp2, A2, W2, q1, q2, e3.trans q3⟩
  | b :: bs, p :: ps, [], fp, m, X, Y, A, W, vs, H, hp, hr, hx, hb, hE => by simp only [BkForL] at hb
  | [], p :: ps, xs, fp, m, X, Y, A, W, vs, H, hp, hr, hx, hb, hE => by simp only [bk1L, Ex] at hE
  | b :: bs, [], xs, fp, m, X, Y, A, W, vs, H, hp, hr, hx, hb, hE => by simp only [bk1L, Ex] at hE

theorem bkA_ok {T : List Value} {tgs : List AV} {D j : Nat} {b : Bk} {p : PB} {x : AV} {v : Value} {k : Nat → AM α} (ht : ∀ t, t ∈ T → t.oneCell' = true) (H : HM c hd fp m w (Y ++ X)) (hp : PBok w.heap T p v Y) (hr : p.okR) (hx : AVok c hd m w.heap x v) (hb : BkForA b x) (hT : AVokL c hd m w.heap tgs T) (hE : Ex P (bkA tgs D j b p k) u m y m' A W) :
    ∃ j' hd1 m1 fp1 A1 W1, Ex P (k j') u m1 y m' A1 W1 ∧ HM c hd1 fp1 m1 w X ∧ Evo hd m w.heap hd1 m1 w.heap := by
  unfold bkA at hE
  split at hE
  · rename_i nm g t os ts
    simp only [BkForA] at hb
    subst hb
    simp only [PBok] at hp
    obtain ⟨g0, cur, e, fr, G, rfl, h2, h3, h4, h5, rfl⟩ := hp
    simp only [PB.okR] at hr
    have h1 := cells_one ht h4 h5
    obtain ⟨j2, xs, hd2, m2, fp2, A2, W2, q1, q2, q3, q4⟩ := exTL_ok (Y := G) (X := g0 :: X) ts j os (H.pocket (by rw [List.cons_append]; exact List.perm_middle)) h5 hr h1 hT hE
    have hx2 := AVok.evo q4 _ hx
    simp only [Ex] at q1
    obtain ⟨B, rfl, q1⟩ := q1
    cases hm : m2 nm with
    | none => rw [hm] at q1; simp only [Ex] at q1
    | some bb =>
      rw [hm] at q1
      cases bb with
      | lentB g' t' =>
        simp only at q1
        split at q1
        · rename_i hg
          obtain ⟨rfl, rfl⟩ := hg
          simp only [Ex] at q1
          obtain ⟨B2, V, _, _, q1⟩ := q1
          simp only [AVok] at hx2
          obtain ⟨_, bb, hb2, hg2, hk2⟩ := hx2
          rw [hm] at hb2; injection hb2 with hb2; subst hb2
          obtain ⟨_, b3, r1, r2⟩ := hk2 rfl
          have hv : hd2 nm = .pointer (some ⟨g0, 0, none⟩) := by rw [r1, r2]
          have hh : upd hd2 nm (hd2 nm) = hd2 := upd_self _ _
          have st := HM.step (w := w) (w' := w) (Y := [g0]) (X := X) (by simpa using q2) nm (blk := .box g' t' xs) (v := hd2 nm) (F := [g0]) (Y' := []) rfl rfl rfl (Nat.le_refl _) (fun _ _ _ _ => rfl) (by simp)
            (fun k hk => .inr (.inl (by simpa using hk))) (fun k hk => by cases hk)
            (fun b0 h0 => by rw [hm] at h0; injection h0 with h0; subst h0; exact ⟨Nat.le_refl _, fun _ => by simp only [EvB]⟩)
            (fun E => by
              rw [hh] at E ⊢
              simp only [BlkOk]
              exact ⟨g0, cur, e, fr, hv, h2, h3, AVokL.evo E xs q3, h1, rfl⟩)
          rw [hh] at st
          exact ⟨_, _, _, _, _, _, q1, by simpa using st.1, q4.trans st.2⟩
        · simp only [Ex] at q1
      | _ => simp only [Ex] at q1
  · rename_i bs ps
    simp only [BkForA] at hb
    obtain ⟨xs, rfl, hb⟩ := hb
    simp only [PBok] at hp
    obtain ⟨vs, rfl, hp⟩ := hp
    simp only [AVok] at hx
    obtain ⟨vs', e, hx, _⟩ := hx
    injection e with e; subst e
    simp only [PB.okR] at hr
    obtain ⟨m1, fp1, A1, W1, q1, q2, q3⟩ := bk1L_ok bs ps xs H hp hr hx hb hE
    exact ⟨_, hd, m1, fp1, A1, W1, q1, q2, q3⟩
  · exact ⟨_, hd, m, fp, A, W, hE, H.leave, Evo.refl _ _ _⟩
  · have hb2 : BkFor b x ∨ ∃ nm g t os, b = .box nm g t os := by
      cases b <;> simp only [BkForA, BkFor] at hb ⊢ <;> first | exact .inl hb | exact .inl trivial | exact .inr ⟨_, _, _, _, rfl⟩ | skip
      rename_i bs _ _ _
      cases p <;> first | (exact absurd rfl (by assumption)) | simp only [bk1, Ex] at hE
    rcases hb2 with hb2 | ⟨nm, g, t, os, rfl⟩
    · obtain ⟨m1, fp1, A1, W1, q1, q2, q3⟩ := bk1_ok H hp hr hx hb2 hE
      exact ⟨_, hd, m1, fp1, A1, W1, q1, q2, q3⟩
    · cases p <;> simp only [bk1, Ex] at hE

theorem bkAL_ok {P : Program} {c : Ctx} {w : World} {α : Type} {y : α} {u : Nat → Bool} {m' : Mem} {T : List Value} (ht : ∀ t, t ∈ T → t.oneCell' = true) {tgs : List AV} {D : Nat} {k : Nat → AM α} : ∀ (bs : List Bk) (ps : List PB) (xs : List AV) (j : Nat) {hd : Nat → Value} {fp : Nat → List Nat} {m : Mem} {X Y A W : List Nat} {vs : List Value}, HM c hd fp m w (Y ++ X) → PBokL w.heap T ps vs Y → PB.okRL ps → AVokL c hd m w.heap xs vs → BkForAL bs xs → AVokL c hd m w.heap tgs T → Ex P (bkAL tgs D j bs ps k) u m y m' A W →
    ∃ j' hd1 m1 fp1 A1 W1, Ex P (k j') u m1 y m' A1 W1 ∧ HM c hd1 fp1 m1 w X ∧ Evo hd m w.heap hd1 m1 w.heap
  | [], [], xs, j, hd, fp, m, X, Y, A, W, vs, H, hp, hr, hx, hb, hT, hE => ⟨j, hd, m, fp, A, W, by simpa only [bkAL] using hE, H.leave, Evo.refl _ _ _⟩
  | b :: bs, p :: ps, x :: xs, j, hd, fp, m, X, Y, A, W, vs, H, hp, hr, hx, hb, hT, hE => by
    simp only [bkAL] at hE
    simp only [PBokL] at hp
    simp only [PB.okRL] at hr
    simp only [BkForAL] at hb
    simp only [AVokL] at hx
    obtain ⟨v, us, F1, F2, rfl, p1, p2, rfl⟩ := hp
    obtain ⟨v', us', e, x1, x2⟩ := hx
    injection e with e e'
    subst e; subst e'
    obtain ⟨j1, hd1, m1, fp1, A1, W1, e1, e2, e3⟩ := bkA_ok ht (Y := F1) (X := F2 ++ X) (by simpa using H) p1 hr.1 x1 hb.1 hT hE
    obtain ⟨j2, hd2, m2, fp2, A2, W2, q1, q2, q3⟩ := bkAL_ok ht bs ps xs j1 e2 p2 hr.2 (AVokL.evo e3 xs x2) hb.2 (AVokL.evo e3 tgs hT) e1
    exact ⟨j2, hd2, m2, fp2, A2, W2, q1, q2, e3.trans q3⟩
  | b :: bs, p :: ps, [], j, hd, fp, m, X, Y, A, W, vs, H, hp, hr, hx, hb, hT, hE => by simp only [BkForAL] at hb
  | [], p :: ps, xs, j, hd, fp, m, X, Y, A, W, vs, H, hp, hr, hx, hb, hT, hE => by simp only [bkAL, Ex] at hE
  | b :: bs, [], xs, j, hd, fp, m, X, Y, A, W, vs, H, hp, hr, hx, hb, hT, hE => by simp only [bkAL, Ex] at hE

/-- A CALL -/
theorem callA_ok {md : Nat → List Hn} {f : Nat} {ts : List Nat} {xs : List AV} {D : Nat} {vals : List Value} {v : AV} {o : Oper} {a : Act} (ho : execOp a.eval o = callFunc f vals.toArray) (H : HM c hd fp m w X) (hx : AVokL c hd m w.heap xs vals) (hE : Ex P (callA τ md f ts xs D) u m v m' A W) : Step P c o a hd m w X v m' := by
  unfold callA at hE
  obtain ⟨ps, bs, l, m1, fp1, F, T, A1, W1, e1, e2, e3, e4, e5, e6, e7, e8⟩ := hndAL_ok _ _ _ H hx hE
  obtain ⟨A2, c1, c2⟩ := chk_ok _ e1
  simp only [Ex] at c1
  obtain ⟨res, pbs, ⟨g1, g2, g3⟩, c1⟩ := c1
  have hpa := e3 c2
  have hs : ∀ k, supp c fp1 l k → k ∉ F ∧ k < w.heap.size := by
    rintro k (hk | ⟨x, _, nm, _, hk⟩)
    · refine ⟨fun h => ?_, Nat.lt_of_lt_of_le hk.2 e2.size⟩
      rcases (e2.xreg k (List.mem_append_left _ h)).1 with h1 | h1
      · exact hk.1 h1
      · have := hk.2; omega
    · exact ⟨fun h => e2.xd nm k hk (List.mem_append_left _ h), e2.lt hk⟩
  have hcall := g3 w vals F T (PAokL.mono hs ps hpa) (List.nodup_append.1 e2.xnd).1 e8
  intro next Q hnext
  have fin : ∀ e w', CallR w vals F T res pbs e w' → ∃ vv, e = .returned vv ∧ next (a.put o.dst vv) w' := by
    rintro e w' ⟨vv, F1, F2, rfl, r1, r2, r3, r4⟩
    have hl : ∀ k, k ∈ F1 ++ F2 → k < w'.heap.size := fun k hk => by
      rcases List.mem_append.1 hk with h | h
      · exact Ow.lt r1 k h
      · exact PBokL.lt pbs r2 k h
    obtain ⟨k1, k2⟩ := e2.called r4 r3 hl
    have k1' : HM c hd fp1 m1 w' (F2 ++ (F1 ++ X)) := k1.pocket (by rw [← List.append_assoc]; exact List.perm_append_comm.append_right X)
    obtain ⟨j1, hd1, m2, fp2, A3, W3, q1, q2, q3⟩ := bkAL_ok e8 _ _ _ _ k1' r2 g2 (AVokL.evo (e5.trans k2) xs hx) e7 (AVokL.evo k2 l e4) c1
    obtain ⟨j2, x, hd2, m3, fp3, A4, W4, z1, z2, z3, z4⟩ := exRes_ok e8 q2 r1 g1 (AVokL.evo (k2.trans q3) l e4) q1
    simp only [Ex] at z1
    obtain ⟨rfl, rfl, _, _⟩ := z1
    exact ⟨vv, rfl, hnext vv w' hd2 fp3 z3 z2 (((e5.trans k2).trans q3).trans z4)⟩
  unfold Oper.wp
  rw [ho]
  unfold CallF at hcall
  split at hcall
  · rename_i heq
    rw [heq]
    obtain ⟨vv, h1, h2⟩ := fin _ _ hcall
    injection h1 with h1; subst h1
    exact h2
  · rename_i heq
    rw [heq]
    refine Calls.mono hcall fun e w' h => ?_
    obtain ⟨vv, rfl, h2⟩ := fin e w' h
    exact h2
  · exact hcall.elim
end
end Go.AM
/- AN ABSTRACT MACHINE, 17: all operations. No condition of its own. -/
namespace Go.AM
open Go AM

/-- the temporaries are as tm says -/
def Rel (c : Ctx) (hd : Nat → Value) (m : Mem) (h : Heap) (tm : Nat → AV) (a : Act) : Prop := ∀ t, AVok c hd m h (tm t) (a.tmps.getD t undef)

section
variable {P : Program} {c : Ctx} {hd : Nat → Value} {fp : Nat → List Nat} {m m' : Mem} {w : World} {X : List Nat} {u : Nat → Bool} {A W : List Nat} {v : AV} {o : Oper} {a : Act} {τ : TTab} {md : Nat → List Hn} {tm : Nat → AV}

theorem cst_ok {h : Heap} (x : Value) : AVok c hd m h (cst x) x := by
  unfold cst; split <;> simp only [AVok]
  exact ⟨none, rfl⟩
theorem evA_ok {h : Heap} (hR : Rel c hd m h tm a) (x : Operand) : AVok c hd m h (evA tm x) (a.eval x) := by
  cases x with
  | tmp t => exact hR t
  | const v => exact cst_ok v
  | global g => simp [evA, AVok]
  | func f => simp [evA, AVok, Act.eval]
theorem Rel.evo {hd' : Nat → Value} {h h' : Heap} (E : Evo hd m h hd' m' h') (hR : Rel c hd m h tm a) : Rel c hd' m' h' tm a := fun t => AVok.evo E _ (hR t)
theorem Rel.put {h : Heap} (hR : Rel c hd m h tm a) {d : Option Nat} {v : AV} {vv : Value} (hv : AVok c hd m h v vv) (hd' : ∀ k, d = some k → k < a.tmps.size) : Rel c hd m h (putA tm d v) (a.put d vv) := by
  intro t
  cases d with
  | none => exact hR t
  | some d =>
    simp only [putA, Act.put]
    by_cases he : t = d
    · subst he
      rw [upd_same, Array.getD_eq_getD_getElem?, Array.getElem?_setIfInBounds_self_of_lt (hd' t rfl)]; exact hv
    · rw [upd_ne _ _ he]
      have : (a.tmps.setIfInBounds d vv).getD t undef = a.tmps.getD t undef := by
        rw [Array.getD_eq_getD_getElem?, Array.getD_eq_getD_getElem?, Array.getElem?_setIfInBounds_ne (Ne.symm he)]
      rw [this]; exact hR t
theorem mapA {h : Heap} {ev : Operand → AV} (hR : ∀ x, AVok c hd m h (ev x) (a.eval x)) : ∀ xs : List Operand, AVokL c hd m h (xs.map ev) (xs.map a.eval)
  | [] => by simp [AVokL]
  | x :: xs => by simp only [List.map_cons, AVokL]; exact ⟨_, _, rfl, hR x, mapA hR xs⟩

theorem arr1 {α : Type} {xs : Array α} {l : List α} (h : xs.toList = l) : xs = l.toArray := by rw [← h]
theorem arr_map {α β : Type} {f : α → β} {xs : Array α} {l : List β} (h : xs.toList.map f = l) : xs.map f = l.toArray := by
  rw [← h]; apply Array.ext'; simp

theorem osem_ok (hτ : TTok P τ) {ev : Operand → AV} {D : Nat} (H : HM c hd fp m w X) (hR : ∀ x, AVok c hd m w.heap (ev x) (a.eval x)) (hn : nilOp o.op = false) (hE : Ex P (osem τ md o ev D) u m v m' A W) : Step P c o a hd m w X v m' := by
  obtain ⟨dst, op, ty, pos, af, gd⟩ := o
  unfold osem at hE
  dsimp only at hE
  have vrun : ∀ {s : Sem Value} {vv : Value} {w' : World}, s.run P w = .ok vv w' → (do Pure.pure (.value (← s)) : Sem Next).run P w = .ok (.value vv) w' := fun h => by simp [Sem.run_bind, h]
  split at hE
  · simp only [Ex] at hE
    obtain ⟨rfl, rfl, _, _⟩ := hE
    exact Step.pure H rfl (hR _) rfl
  · simp only [Ex] at hE
    obtain ⟨rfl, rfl, _, _⟩ := hE
    exact Step.pure H rfl (hR _) rfl
  · obtain ⟨h1, vv, h2, h3⟩ := pick_ok (hR _) (hR _) (hR _) hE
    refine Step.pure H (?_) h3 h1
    simp only [execOp, Sem.run_bind] at h2 ⊢
    cases hb : (asBool (a.eval _)).run P w with
    | ok b w2 => rw [hb] at h2; simp only [Result.andThen_ok, Sem.run_pure] at h2 ⊢; injection h2 with h2 h2'; rw [h2, h2']
    | _ => rw [hb] at h2; simp [Result.andThen] at h2
  · split at hE
    · rename_i ti ht
      obtain ⟨vv, w', hd', fp', h1, h2⟩ := alloc_ok hτ H ht hE
      exact Step.value (vrun h1) h2.1 h2.2.1 h2.2.2
    · simp only [Ex] at hE
  · split at hE
    · split at hE
      · rename_i hk
        obtain ⟨vv, w', hd', fp', h1, h2⟩ := box_ok H (hR _) hk.1 hE
        exact Step.value (vrun h1) h2.1 h2.2.1 h2.2.2
      · simp only [Ex] at hE
    · simp only [Ex] at hE
  · rename_i t ps
    obtain ⟨h1, vv, h2, h3⟩ := build_ok hτ (qs := ps.toList.map fun p => (p.1, a.eval p.2)) (by simp) (fun j i x hj => by
      rw [List.getElem?_map] at hj ⊢
      cases hp : ps.toList[j]? with
      | none => rw [hp] at hj; cases hj
      | some p =>
        rw [hp] at hj
        simp only [Option.map_some, Option.some.injEq, Prod.mk.injEq] at hj
        obtain ⟨rfl, rfl⟩ := hj
        exact ⟨_, rfl, hR _⟩) hE
    refine Step.pure H (vrun ?_) h3 h1
    rw [← h2]
    congr 2
    apply Array.ext'; simp
  · rename_i t n ps
    obtain ⟨vv, w', hd', fp', h1, h2⟩ := buildSlice_ok hτ H (qs := ps.toList.map fun p => (p.1, a.eval p.2)) (by simp) (fun j i x hj => by
      rw [List.getElem?_map] at hj ⊢
      cases hp : ps.toList[j]? with
      | none => rw [hp] at hj; cases hj
      | some p =>
        rw [hp] at hj
        simp only [Option.map_some, Option.some.injEq, Prod.mk.injEq] at hj
        obtain ⟨rfl, rfl⟩ := hj
        exact ⟨_, rfl, hR _⟩) hE
    refine Step.value (vrun ?_) h2.1 h2.2.1 h2.2.2
    rw [← h1]
    congr 2
    apply Array.ext'; simp
  · obtain ⟨h1, vv, h2, h3⟩ := load_ok hτ H (hR _) hE
    exact Step.pure H (vrun h2) h3 h1
  · obtain ⟨h1, w', hd', fp', h2, h3, h4⟩ := store_ok hτ H (hR _) (hR _) hE
    refine Step.skip (w' := w') ?_ h3 h4 h1
    show (do Instr.storeAt _ _ _; Pure.pure Next.skip : Sem Next).run P w = _
    simp [Sem.run_bind, h2]
  · rename_i x
    have hx := hR x
    split at hE
    · rename_i nm g i off he
      rw [he] at hx
      have hx' := hx
      simp only [AVok] at hx
      obtain ⟨⟨b, hb⟩, _⟩ := hx
      simp only [Ex] at hE
      obtain ⟨rfl, rfl, _, _⟩ := hE
      refine Step.pure H (?_) hx' rfl
      simp only [execOp, hb, Sem.run_pure]
    · rename_i cs he
      rw [he] at hx
      have hx' := hx
      simp only [AVok] at hx
      obtain ⟨b, vs, hb, _⟩ := hx
      simp only [Ex] at hE
      obtain ⟨rfl, rfl, _, _⟩ := hE
      refine Step.pure H (?_) hx' rfl
      simp only [execOp, hb, Sem.run_pure]
    · simp only [Ex] at hE
  · split at hE
    · rename_i hv
      simp [nilOp, hv] at hn
    · obtain ⟨h1, vv, h2, h3⟩ := bin_ok hτ (hR _) (hR _) hE
      exact Step.pure H (vrun h2) h3 h1
  · obtain ⟨h1, vv, h2, h3⟩ := bin_ok hτ (hR _) (hR _) hE
    exact Step.pure H (vrun h2) h3 h1
  · obtain ⟨h1, vv, h2, h3⟩ := una_ok (hR _) hE
    exact Step.pure H (vrun h2) h3 h1
  · obtain ⟨vv, w', hd', fp', h1, h2⟩ := conv_ok hτ H (hR _) hE
    exact Step.value (vrun h1) h2.1 h2.2.1 h2.2.2
  · obtain ⟨vv, w', hd', fp', h1, h2⟩ := make_ok hτ H (hR _) (hR _) hE
    exact Step.value (vrun h1) h2.1 h2.2.1 h2.2.2
  · rename_i t x lo hi mx
    cases mx with
    | some mx => simp only [sliceVal, Option.map_some, Ex] at hE
    | none =>
      obtain ⟨h1, vv, h2, h3⟩ := sliceVal_ok hτ H (lov := lo.map a.eval) (hiv := hi.map a.eval) (hR x)
        (fun z hz => by cases lo with
          | none => cases hz
          | some l => simp only [Option.map_some, Option.some.injEq] at hz ⊢; subst hz; exact ⟨_, rfl, hR l⟩) (fun hz => by cases lo <;> simp at hz ⊢)
        (fun z hz => by cases hi with
          | none => cases hz
          | some l => simp only [Option.map_some, Option.some.injEq] at hz ⊢; subst hz; exact ⟨_, rfl, hR l⟩) (fun hz => by cases hi <;> simp at hz ⊢) hE
      exact Step.pure H (vrun h2) h3 h1
  · obtain ⟨h1, vv, h2, h3⟩ := fieldPtr_ok hτ H (hR _) hE
    exact Step.pure H (vrun h2) h3 h1
  · obtain ⟨h1, vv, h2, h3⟩ := fieldVal_ok hτ (hR _) hE
    exact Step.pure H (vrun h2) h3 h1
  · obtain ⟨h1, vv, h2, h3⟩ := indexPtr_ok hτ H (hR _) (hR _) hE
    exact Step.pure H (vrun h2) h3 h1
  · obtain ⟨h1, vv, h2, h3⟩ := indexVal_ok hτ (hR _) (hR _) hE
    exact Step.pure H (vrun h2) h3 h1
  · rename_i x i
    have hx := hR x
    split at hE
    · rename_i cs he
      rw [he] at hx
      simp only [AVok] at hx
      obtain ⟨vs, hb, hx⟩ := hx
      split at hE
      · rename_i y hy
        simp only [Ex] at hE
        obtain ⟨rfl, rfl, _, _⟩ := hE
        obtain ⟨z, hz, hzv⟩ := AVokL.get hx hy
        refine Step.pure H (vrun ?_) hzv rfl
        have hz' : vs[i]? = some z := by rw [← Array.getElem?_toList]; exact hz
        simp only [hb, Instr.extract, hz', Sem.run_pure]
      · simp only [Ex] at hE
    · simp only [Ex] at hE
  · rename_i x args ats
    have hx := hR x
    split at hE
    · rename_i f he
      rw [he] at hx
      simp only [AVok] at hx
      refine callA_ok (vals := args.toList.map a.eval) ?_ H (mapA hR args.toList) hE
      simp only [execOp, resolve, hx, Deferred.ofValue]
      simp [invoke, arr_map rfl]
    · simp only [Ex] at hE
  · rename_i args ats
    split at hE
    · rename_i x t h1 h2
      have hm := mapA hR args.toList
      rw [h1] at hm
      simp only [AVokL] at hm
      obtain ⟨xv, us, e1, hx, rfl⟩ := hm
      obtain ⟨h3, vv, h4, h5⟩ := lenVal_ok (ty := ty) hτ H hx hE
      refine Step.pure H (vrun (s := Builtin.len_ ats ty (args.map a.eval)) ?_) h5 h3
      rw [arr_map e1, arr1 h2]; exact h4
    · simp only [Ex] at hE
  · rename_i args ats
    split at hE
    · rename_i x y t t2 h1 h2
      have hm := mapA hR args.toList
      rw [h1] at hm
      simp only [AVokL] at hm
      obtain ⟨xv, us, e1, hx, yv, us2, rfl, hy, rfl⟩ := hm
      obtain ⟨vv, w', hd', fp', h4, h5⟩ := append_ok (ty := ty) hτ H hx hy hE
      refine Step.value (vrun (s := Builtin.append_ ats ty (args.map a.eval)) ?_) h5.1 h5.2.1 h5.2.2
      rw [arr_map e1, arr1 h2]; exact h4
    · simp only [Ex] at hE
  · rename_i args ats
    split at hE
    · rename_i x r h1
      have hm := mapA hR args.toList
      rw [h1] at hm
      simp only [AVokL] at hm
      obtain ⟨xv, us, e1, hx, hr⟩ := hm
      obtain ⟨h3, vv, h4, h5⟩ := minmax_ok hx hr hE
      refine Step.pure H (vrun (s := Builtin.max_ ats ty (args.map a.eval)) ?_) h5 h3
      rw [arr_map e1]; exact h4
    · simp only [Ex] at hE
  · rename_i args ats
    split at hE
    · rename_i x r h1
      have hm := mapA hR args.toList
      rw [h1] at hm
      simp only [AVokL] at hm
      obtain ⟨xv, us, e1, hx, hr⟩ := hm
      obtain ⟨h3, vv, h4, h5⟩ := minmax_ok hx hr hE
      refine Step.pure H (vrun (s := Builtin.min_ ats ty (args.map a.eval)) ?_) h5 h3
      rw [arr_map e1]; exact h4
    · simp only [Ex] at hE
  · simp only [Ex] at hE

/-- a slice beside nil: the machine says which -/
theorem nilA_ok (H : HM c hd fp m w X) {x : AV} {xv : Value} (hx : AVok c hd m w.heap x xv) : ∃ u : Nat → Bool, ∀ {k : Bool → AV} {v : AV} {m' : Mem} {A W : List Nat}, Ex P (nilA x k) u m v m' A W → m' = m ∧ ∃ B n C, xv = .slice B n C ∧ v = k B.isNone := by
  by_cases hs : ∃ B n C, xv = .slice B n C
  · obtain ⟨B, n, C, rfl⟩ := hs
    refine ⟨fun _ => B.isNone, fun {k v m' A W} hE => ?_⟩
    unfold nilA at hE
    split at hE
    · simp only [Ex] at hE
      exact ⟨hE.2.1, B, n, C, rfl, hE.1⟩
    · rename_i tg sz n' cs
      split at hE
      · simp only [Ex] at hE
        exact ⟨hE.2.1, B, n, C, rfl, hE.1⟩
      · simp only [AVok, Rd] at hx
        obtain ⟨⟨_, B', c', vs, e, _, _, _, h5⟩, _⟩ := hx
        obtain ⟨a, ha, _⟩ := h5 (by simp)
        injection e with e _ _
        subst e; subst ha
        simp only [Ex] at hE
        exact ⟨hE.2.1, _, n, C, rfl, hE.1⟩
    · rename_i nm g
      simp only [Ex] at hE
      obtain ⟨D, rfl, hE⟩ := hE
      cases hm : m nm with
      | none => rw [hm] at hE; simp only [Ex] at hE
      | some b =>
        rw [hm] at hE
        cases b with
        | row g' vv sz n' cs =>
          simp only at hE
          split at hE
          · rename_i hg
            subst hg
            split at hE
            · simp only [Ex] at hE
              exact ⟨hE.2.1, B, n, C, rfl, hE.1⟩
            · have hv := own_eq hx hm
              have hb := H.blk nm _ hm
              simp only [BlkOk, Ow] at hb
              rw [← hv] at hb
              simp only [Ex] at hE
              rcases hb.2 with ⟨_, _, h0, _⟩ | ⟨g0, cap, cur, e, fr, G, e1, _⟩
              · have := hb.1.1; rw [h0] at this; simp at this
              · injection e1 with e1 _ _
                subst e1
                exact ⟨hE.2.1, _, n, C, rfl, hE.1⟩
          · simp only [Ex] at hE
        | _ => simp only [Ex] at hE
    · simp only [Ex] at hE
  · refine ⟨fun _ => true, fun {k v m' A W} hE => ?_⟩
    exfalso
    apply hs
    unfold nilA at hE
    split at hE
    · simp only [AVok] at hx; obtain ⟨B, rfl⟩ := hx; exact ⟨B, 0, 0, rfl⟩
    · simp only [AVok, Rd] at hx
      obtain ⟨⟨_, B, c', vs, e, _⟩, _⟩ := hx
      exact ⟨B, _, c', e⟩
    · rename_i nm g
      simp only [Ex] at hE
      obtain ⟨D, rfl, hE⟩ := hE
      cases hm : m nm with
      | none => rw [hm] at hE; simp only [Ex] at hE
      | some b =>
        rw [hm] at hE
        cases b with
        | row g' vv sz n' cs =>
          simp only at hE
          split at hE
          · rename_i hg
            subst hg
            have hv := own_eq hx hm
            have hb := H.blk nm _ hm
            simp only [BlkOk, Ow] at hb
            rw [← hv] at hb
            rcases hb.2 with ⟨B, e, _⟩ | ⟨g0, cap, cur, e, fr, G, e1, _⟩
            · exact ⟨B, 0, 0, e⟩
            · exact ⟨_, _, _, e1⟩
          · simp only [Ex] at hE
        | _ => simp only [Ex] at hE
    · simp only [Ex] at hE
theorem nilC_eq {v : Value} (h : isNilC v = true) : v = .slice none 0 0 := by
  unfold isNilC at h
  split at h
  · rfl
  · cases h
/-- EVERY OPERATION, for what the machine draws -/
theorem osem_u (hτ : TTok P τ) {ev : Operand → AV} {D : Nat} (H : HM c hd fp m w X) (hR : ∀ x, AVok c hd m w.heap (ev x) (a.eval x)) : ∃ u : Nat → Bool, ∀ v m' A W, Ex P (osem τ md o ev D) u m v m' A W → Step P c o a hd m w X v m' := by
  cases hn : nilOp o.op with
  | false => exact ⟨fun _ => true, fun v m' A W hE => osem_ok hτ H hR hn hE⟩
  | true =>
    obtain ⟨dst, op, ty, pos, af, gd⟩ := o
    simp only at hn
    unfold nilOp at hn
    split at hn
    · rename_i op t x z yt
      have hz := nilC_eq hn
      subst hz
      obtain ⟨u, hu⟩ := nilA_ok (P := P) H (hR x)
      refine ⟨u, fun v m' A W hE => ?_⟩
      unfold osem at hE
      dsimp only at hE
      simp only [isNilC] at hE
      unfold nilCmp at hE
      split at hE
      · rename_i e0 _ _ _ ht
        have hus := (hτ t _ ht).slice rfl w
        have h1 := run_underlying hus w
        split at hE
        · obtain ⟨h2, B, n, C, h3, h4⟩ := hu hE
          refine Step.pure (vv := .bool B.isNone) H ?_ (by rw [h4]; simp only [AVok]) h2
          show (do Pure.pure (.value (← (do Go.eqGuard .eql t x (.const (.slice none 0 0)) (a.eval x) (.slice none 0 0); Go.binOp .eql t (a.eval x) (.slice none 0 0) : Sem Value))) : Sem Next).run P w = _
          rw [h3]
          simp only [Go.eqGuard, Go.binOp, Sem.run_bind, eq_nil hus, Result.andThen_ok, Sem.run_pure]; rfl
        · obtain ⟨h2, B, n, C, h3, h4⟩ := hu hE
          refine Step.pure (vv := .bool (!B.isNone)) H ?_ (by rw [h4]; simp only [AVok]) h2
          show (do Pure.pure (.value (← (do Go.eqGuard .neq t x (.const (.slice none 0 0)) (a.eval x) (.slice none 0 0); Go.binOp .neq t (a.eval x) (.slice none 0 0) : Sem Value))) : Sem Next).run P w = _
          rw [h3]
          simp only [Go.eqGuard, Go.binOp, Sem.run_bind, eq_nil hus, Result.andThen_ok, Sem.run_pure]; rfl
        · simp only [Ex] at hE
      · simp only [Ex] at hE
    · cases hn
end
end Go.AM
/- AN ABSTRACT MACHINE, 18: regions: operations in their order, and in any that the machine may draw. No condition of its own. -/
namespace Go.AM
open Go AM

/-- the machine's state is as s says -/
def Holds (c : Ctx) (gv : List Value) (N : Nat) (s : AState) (a : Act) (w : World) : Prop :=
  ∃ hd fp, HM c hd fp s.mem w [] ∧ Rel c hd s.mem w.heap s.tm a ∧ AVokL c hd s.mem w.heap s.gs gv ∧ a.defers = [] ∧ a.tmps.size = N
theorem put_size (a : Act) (d : Option Nat) (v : Value) : (a.put d v).tmps.size = a.tmps.size := by cases d <;> simp [Act.put]
theorem put_defers' (a : Act) (d : Option Nat) (v : Value) : (a.put d v).defers = a.defers := by cases d <;> rfl
theorem wpo_ex {P : Program} {α : Type} : ∀ {p : AM α} {m : Mem} {L : α → Mem → Prop}, wpo P p m L → ∀ u, ∃ v m' A W, Ex P p u m v m' A W ∧ L v m'
  | .ret v, m, L, h, u => ⟨v, m, [], [], by simp [Ex], h⟩
  | .fail, m, L, h, u => h.elim
  | .req p k, m, L, h, u => by
    obtain ⟨v, m', A, W, e, l⟩ := wpo_ex h.2 u
    exact ⟨v, m', A, W, ⟨h.1, e⟩, l⟩
  | .pick k, m, L, h, u => by
    obtain ⟨v, m', A, W, e, l⟩ := wpo_ex (h (u 0)) (fun i => u (i + 1))
    exact ⟨v, m', A, W, e, l⟩
  | .look l k, m, L, h, u => by
    obtain ⟨v, m', A, W, e, l⟩ := wpo_ex (p := k l) h u
    exact ⟨v, m', A, W, e, l⟩
  | .get nm k, m, L, h, u => by
    obtain ⟨v, m', A, W, e, l⟩ := wpo_ex (p := k (m nm)) h u
    exact ⟨v, m', nm :: A, W, ⟨A, rfl, e⟩, l⟩
  | .set nm b k, m, L, h, u => by
    obtain ⟨v, m', A, W, e, l⟩ := wpo_ex (p := k) h u
    exact ⟨v, m', nm :: A, nm :: W, ⟨A, W, rfl, rfl, e⟩, l⟩
  | .call f pas k, m, L, h, u => by
    obtain ⟨res, pbs, g, h⟩ := h
    obtain ⟨v, m', A, W, e, l⟩ := wpo_ex h u
    exact ⟨v, m', A, W, ⟨res, pbs, g, e⟩, l⟩

section
variable {E : Env} {c : Ctx} {gv : List Value} {N : Nat} {s : AState} {a : Act} {w : World} {all : Array Oper}

/-- what an operation does, in the whole -/
theorem oper_ok (hτ : TTok E.P E.τ) {o : Oper} {L : AV → Mem → Prop} (hN : ∀ d, o.dst = some d → d < N) (H : Holds c gv N s a w) (h : wpo E.P (AM.osem E.τ E.md o (evA s.tm) (baseOf o.dst)) s.mem L)
    {next : Act → World → Prop} {Q : Exit → Act → World → Prop} (hn : ∀ v m a' w', L v m → Holds c gv N ⟨putA s.tm o.dst v, m, s.gs⟩ a' w' → next a' w') : o.wp E.P a w next Q := by
  obtain ⟨hd, fp, h1, h2, h3, h4, h5⟩ := H
  obtain ⟨u, hu⟩ := osem_u (md := E.md) (o := o) (D := baseOf o.dst) hτ h1 (fun x => evA_ok h2 x)
  obtain ⟨v, m', A, W, e, l⟩ := wpo_ex h u
  refine hu v m' A W e next Q fun vv w' hd' fp' k1 k2 k3 => hn v m' _ _ l ?_
  exact ⟨hd', fp', k2, Rel.put (Rel.evo k3 h2) k1 (fun d hd => by rw [h5]; exact hN d hd), AVokL.evo k3 _ h3, (put_defers' a _ vv).trans h4, (put_size a _ vv).trans h5⟩
theorem skip_ok {d : Option Nat} (hN : ∀ k, d = some k → k < N) (H : Holds c gv N s a w) : Holds c gv N ⟨putA s.tm d (.tup []), s.mem, s.gs⟩ (a.put d undef) w := by
  obtain ⟨hd, fp, h1, h2, h3, h4, h5⟩ := H
  exact ⟨hd, fp, h1, Rel.put h2 (by simp [AVok, AVokL, undef]) (fun d hd => by rw [h5]; exact hN d hd), h3, (put_defers' a _ _).trans h4, (put_size a _ _).trans h5⟩
theorem gdv_ok {j : Nat} {b : Bool} (H : Holds c gv N s a w) (hg : gdv all s.tm j = .bool b) : yielded all a.tmps j = some b := by
  obtain ⟨hd, fp, h1, h2, h3, h4, h5⟩ := H
  unfold gdv at hg
  unfold yielded
  cases ht : (all[j]?).bind (·.dst) with
  | none => rw [ht] at hg; cases hg
  | some t =>
    rw [ht] at hg
    simp only at hg
    have := h2 t
    rw [hg] at this
    simp only [AVok] at this
    rw [Array.getD_eq_getD_getElem?] at this
    simp only [Option.bind_some]
    cases hx : a.tmps[t]? with
    | none => rw [hx] at this; simp [undef] at this
    | some x => rw [hx] at this; simp only [Option.getD_some] at this; rw [this]
theorem gdv_none {j : Nat} (H : Holds c gv N s a w) (hg : gdv all s.tm j = .tup []) : yielded all a.tmps j = none := by
  obtain ⟨hd, fp, h1, h2, h3, h4, h5⟩ := H
  unfold gdv at hg
  unfold yielded
  cases ht : (all[j]?).bind (·.dst) with
  | none => rfl
  | some t =>
    rw [ht] at hg
    simp only at hg
    have := h2 t
    rw [hg] at this
    simp only [AVok] at this
    obtain ⟨vs, this, _⟩ := this
    rw [Array.getD_eq_getD_getElem?] at this
    simp only [Option.bind_some]
    cases hx : a.tmps[t]? with
    | none => rfl
    | some x => rw [hx] at this; simp only [Option.getD_some] at this; rw [this]
theorem guard_none {o : Oper} {j : Nat} {want : Bool} (ho : o.guard = some (j, want)) (H : Holds c gv N s a w) (hg : gdv all s.tm j = .tup []) : Region.wanted o (yielded all a.tmps) = false := by
  unfold Region.wanted
  rw [ho]
  simp only [gdv_none H hg]
  rfl
theorem guard_ok {o : Oper} {j : Nat} {want b : Bool} (ho : o.guard = some (j, want)) (H : Holds c gv N s a w) (hg : gdv all s.tm j = .bool b) : Region.wanted o (yielded all a.tmps) = (b == want) := by
  unfold Region.wanted
  rw [ho]
  simp only [gdv_ok H hg]
  cases b <;> cases want <;> rfl

/-! ### operations in their order -/
theorem aops_ok (hτ : TTok E.P E.τ) {K : AState → Prop} {Q : Exit → Act → World → Prop} (hK : ∀ s a w, K s → Holds c gv N s a w → Q .normal a w) (hN : ∀ o, o ∈ all.toList → ∀ d, o.dst = some d → d < N) :
    ∀ (n k : Nat) {s a w}, k + n = all.size → aops E all K (all.toList.drop k) s → Holds c gv N s a w → wpOps E.P all Q (List.range' k n) a w
  | 0, k, s, a, w, hk, h, H => by
    rw [List.drop_eq_nil_of_le (by simp; omega)] at h
    simp only [List.range'_zero, wpOps]
    exact hK s a w h H
  | n + 1, k, s, a, w, hk, h, H => by
    have hlt : k < all.toList.length := by simp; omega
    have ho : all[k]? = some all.toList[k] := by rw [← Array.getElem?_toList]; exact List.getElem?_eq_getElem hlt
    rw [List.drop_eq_getElem_cons hlt] at h
    have hmem : all.toList[k] ∈ all.toList := List.getElem_mem hlt
    generalize all.toList[k] = o at *
    simp only [List.range'_succ, wpOps, ho]
    have go : wpo E.P (AM.osem E.τ E.md o (evA s.tm) (baseOf o.dst)) s.mem (fun v m => aops E all K (all.toList.drop (k + 1)) ⟨putA s.tm o.dst v, m, s.gs⟩) → o.wp E.P a w (wpOps E.P all Q (List.range' (k + 1) n)) Q := fun h =>
      oper_ok hτ (hN o hmem) H h fun v m a' w' hl hh => aops_ok hτ hK hN n (k + 1) (by omega) hl hh
    unfold aops at h
    split at h
    · rename_i hg
      have : Region.wanted o (yielded all a.tmps) = true := by unfold Region.wanted; rw [hg]
      rw [this, if_pos rfl]
      exact .inl (go h)
    · rename_i j want hg
      unfold guardW at h
      split at h
      · rename_i b hb
        rw [guard_ok hg H hb]
        cases hc : (b == want) with
        | true => rw [if_pos rfl]; exact .inl (go (h.1 (by simpa using hc)))
        | false =>
          rw [if_neg (by simp)]
          exact aops_ok hτ hK hN n (k + 1) (by omega) (h.2 (by intro e; subst e; simp at hc)) (skip_ok (hN o hmem) H)
      · rename_i hb
        rw [guard_none hg H hb, if_neg (by simp)]
        exact aops_ok hτ hK hN n (k + 1) (by omega) h (skip_ok (hN o hmem) H)
      · exact h.elim

/-! ### in any order -/
def direct (all : Array Oper) (i : Nat) : List Nat :=
  match all[i]? with
  | some o => (o.after.toList.filter (Region.binds .any)).map (·.on)
  | none => []
def dedup : List Nat → List Nat
  | [] => []
  | x :: xs => if xs.contains x then dedup xs else x :: dedup xs
theorem mem_dedup {x : Nat} : ∀ {xs : List Nat}, x ∈ dedup xs ↔ x ∈ xs
  | [] => by simp [dedup]
  | y :: ys => by
    unfold dedup
    split
    · rename_i h
      rw [mem_dedup, List.mem_cons]
      constructor
      · exact .inr
      · rintro (rfl | h2)
        · simpa using h
        · exact h2
    · rw [List.mem_cons, List.mem_cons, mem_dedup]
/-- the same, each once; T: those of the first -/
def ancT (all : Array Oper) : Nat → Nat → List (List Nat) → List (List Nat)
  | 0, i, T => T
  | n + 1, i, T => ancT all n (i + 1) (T ++ [dedup ((direct all i).flatMap fun j => j :: T.getD j [])])
def looseAt (i : Nat) (A : List Nat) : Nat → List (Nat × Nat)
  | 0 => []
  | j + 1 => if A.contains j then looseAt i A j else (j, i) :: looseAt i A j
def looseL : Nat → List (List Nat) → List (Nat × Nat)
  | _, [] => []
  | i, A :: T => looseAt i A i ++ looseL (i + 1) T
/-- the pairs of which either may come first -/
def loose (all : Array Oper) : List (Nat × Nat) := looseL 0 (ancT all all.size 0 [])
def apartAt (all : Array Oper) (p : Nat × Nat) : Bool :=
  match all[p.1]?, all[p.2]? with
  | some x, some y => Oper.apart all x y
  | _, _ => false
def ordOk (all : Array Oper) : Bool := ((List.range all.size).all fun i => (direct all i).all fun j => decide (j < i)) && (loose all).all (apartAt all)
def disjB (xs ys : List Nat) : Bool := xs.all fun k => !ys.contains k
def logOk (all : Array Oper) (lg : List (List Nat × List Nat)) : Bool :=
  (loose all).all fun p => disjB (lg.getD p.1 ([], [])).2 (lg.getD p.2 ([], [])).1 && disjB (lg.getD p.2 ([], [])).2 (lg.getD p.1 ([], [])).1

/-- as wpo, with a log; nothing is to be picked -/
def wpoL (P : Program) : AM AV → Mem → List Nat → List Nat → (AV → Mem → List Nat → List Nat → Prop) → Prop
  | .ret v, m, A, W, L => L v m A W
  | .fail, m, A, W, L => False
  | .req p k, m, A, W, L => p ∧ wpoL P k m A W L
  | .pick k, m, A, W, L => False
  | .look l k, m, A, W, L => wpoL P (k l) m A W L
  | .get nm k, m, A, W, L => wpoL P (k (m nm)) m (nm :: A) W L
  | .set nm b k, m, A, W, L => wpoL P k (upd m nm (some b)) (nm :: A) (nm :: W) L
  | .call f pas k, m, A, W, L => ∃ res pbs, AGood P f pas res pbs ∧ wpoL P (k res pbs) m A W L
def aopsD (E : Env) (all : Array Oper) (K : AState → Prop) : List Oper → AState → List (List Nat × List Nat) → Prop
  | [], s, lg => logOk all lg.reverse = true ∧ K s
  | o :: r, s, lg => match o.guard with
    | none => wpoL E.P (AM.osem E.τ E.md o (evA s.tm) (baseOf o.dst)) s.mem [] [] fun v m A W => aopsD E all K r ⟨putA s.tm o.dst v, m, s.gs⟩ ((A, W) :: lg)
    | some (j, want) => guardW (gdv all s.tm j) want (wpoL E.P (AM.osem E.τ E.md o (evA s.tm) (baseOf o.dst)) s.mem [] [] fun v m A W => aopsD E all K r ⟨putA s.tm o.dst v, m, s.gs⟩ ((A, W) :: lg)) (aopsD E all K r ⟨putA s.tm o.dst (.tup []), s.mem, s.gs⟩ (([], []) :: lg))

theorem wpoL_ex {P : Program} : ∀ {p : AM AV} {m : Mem} {A0 W0 : List Nat} {L : AV → Mem → List Nat → List Nat → Prop}, wpoL P p m A0 W0 L → ∃ v m' A W A1 W1, (∀ u, Ex P p u m v m' A W) ∧ L v m' A1 W1 ∧ (∀ k, k ∈ A ∨ k ∈ A0 → k ∈ A1) ∧ (∀ k, k ∈ W ∨ k ∈ W0 → k ∈ W1)
  | .ret v, m, A0, W0, L, h => ⟨v, m, [], [], A0, W0, fun u => by simp [Ex], h, by simp, by simp⟩
  | .fail, m, A0, W0, L, h => h.elim
  | .req p k, m, A0, W0, L, h => by
    obtain ⟨v, m', A, W, A1, W1, e, l⟩ := wpoL_ex h.2
    exact ⟨v, m', A, W, A1, W1, fun u => ⟨h.1, e u⟩, l⟩
  | .pick k, m, A0, W0, L, h => h.elim
  | .look l k, m, A0, W0, L, h => by
    obtain ⟨v, m', A, W, A1, W1, e, l⟩ := wpoL_ex (p := k l) h
    exact ⟨v, m', A, W, A1, W1, fun u => e u, l⟩
  | .get nm k, m, A0, W0, L, h => by
    obtain ⟨v, m', A, W, A1, W1, e, l, l2, l3⟩ := wpoL_ex (p := k (m nm)) h
    exact ⟨v, m', nm :: A, W, A1, W1, fun u => ⟨A, rfl, e u⟩, l, fun k hk => l2 k (by simp at hk ⊢; rcases hk with (h | h) | h <;> simp [h]), l3⟩
  | .set nm b k, m, A0, W0, L, h => by
    obtain ⟨v, m', A, W, A1, W1, e, l, l2, l3⟩ := wpoL_ex (p := k) h
    exact ⟨v, m', nm :: A, nm :: W, A1, W1, fun u => ⟨A, W, rfl, rfl, e u⟩, l, fun k hk => l2 k (by simp at hk ⊢; rcases hk with (h | h) | h <;> simp [h]), fun k hk => l3 k (by simp at hk ⊢; rcases hk with (h | h) | h <;> simp [h])⟩
  | .call f pas k, m, A0, W0, L, h => by
    obtain ⟨res, pbs, g, h⟩ := h
    obtain ⟨v, m', A, W, A1, W1, e, l⟩ := wpoL_ex h
    exact ⟨v, m', A, W, A1, W1, fun u => ⟨res, pbs, g, e u⟩, l⟩

def gdb (all : Array Oper) (o : Oper) (tm : Nat → AV) : Option Bool :=
  match o.guard with
  | none => some true
  | some (j, want) => match gdv all tm j with
    | .bool b => some (b == want)
    | .tup [] => some false
    | _ => none
def RunO (E : Env) (all : Array Oper) (o : Oper) (s s' : AState) (A W : List Nat) : Prop :=
  (gdb all o s.tm = some true ∧ ∃ v m' A0 W0, (∀ u, Ex E.P (AM.osem E.τ E.md o (evA s.tm) (baseOf o.dst)) u s.mem v m' A0 W0) ∧ (∀ k, k ∈ A0 → k ∈ A) ∧ (∀ k, k ∈ W0 → k ∈ W) ∧ s' = ⟨putA s.tm o.dst v, m', s.gs⟩) ∨
  (gdb all o s.tm = some false ∧ s' = ⟨putA s.tm o.dst (.tup []), s.mem, s.gs⟩)

theorem osem_congr {τ : TTab} {md : Nat → List Hn} {o : Oper} {ev ev' : Operand → AV} {D : Nat} (h : ∀ x, x ∈ o.op.operands → ev x = ev' x) : AM.osem τ md o ev D = AM.osem τ md o ev' D := by
  obtain ⟨dst, op, ty, pos, af, gd⟩ := o
  simp only at h
  have hl : ∀ xs : List Operand, (∀ x, x ∈ xs → ev x = ev' x) → xs.map ev = xs.map ev' := fun xs hx => List.map_congr_left hx
  have hp : ∀ ps : List (Nat × Operand), (∀ x, x ∈ ps.map (·.2) → ev x = ev' x) → (ps.map fun p => (p.1, ev p.2)) = ps.map fun p => (p.1, ev' p.2) := fun ps hx => List.map_congr_left fun p hm => by rw [hx p.2 (List.mem_map.2 ⟨p, hm, rfl⟩)]
  have ho : ∀ z : Option Operand, (∀ x, x ∈ z.toArray → ev x = ev' x) → z.map ev = z.map ev' := fun z hz => by
    cases z with
    | none => rfl
    | some y => simp only [Option.map_some]; rw [hz y (by simp)]
  unfold AM.osem
  cases op <;> simp only [Op.operands] at h ⊢ <;> first | rfl | skip
  case call cl =>
    obtain ⟨cal, args, ats⟩ := cl
    simp only [Call.operands] at h
    have ha := hl args.toList (fun x hx => h x (by simp at hx ⊢; exact .inr hx))
    cases cal with
    | builtin b => cases b <;> first | rfl | (simp only [ha])
    | invoke r nm => rfl
    | value f => simp only [ha, h f (by simp)]
  case build t ps => rw [hp ps.toList (fun x hx => h x (by simpa using hx))]
  case buildSlice t n ps => rw [hp ps.toList (fun x hx => h x (by simpa using hx))]
  case binOp op t x y yt =>
    have h1 := h x (by simp)
    have h2 := h y (by simp)
    cases y <;> simp only [h1, h2]
  case slice t x lo hi mx =>
    rw [h x (by simp), ho lo (fun y hy => h y (by simp at hy ⊢; simp [hy])), ho hi (fun y hy => h y (by simp at hy ⊢; simp [hy])), ho mx (fun y hy => h y (by simp at hy ⊢; simp [hy]))]
  all_goals simp [h]

theorem evA_put {tm : Nat → AV} {d : Option Nat} {v : AV} {x : Operand} (h : ∀ k, d = some k → x ≠ .tmp k) : evA (putA tm d v) x = evA tm x := by
  cases d with
  | none => rfl
  | some d =>
    cases x with
    | tmp t => exact upd_ne _ _ (fun e => h d rfl (e ▸ rfl))
    | _ => rfl
theorem gdb_put {o : Oper} {tm : Nat → AV} {d : Option Nat} {v : AV} (h : ∀ k, d = some k → k ∉ o.looksAt all) : gdb all o (putA tm d v) = gdb all o tm := by
  unfold gdb
  cases hg : o.guard with
  | none => rfl
  | some p =>
    obtain ⟨j, want⟩ := p
    simp only
    have : gdv all (putA tm d v) j = gdv all tm j := by
      unfold gdv
      cases ht : (all[j]?).bind (·.dst) with
      | none => rfl
      | some t =>
        simp only
        cases d with
        | none => rfl
        | some d =>
          refine upd_ne _ _ (fun e => h d rfl ?_)
          unfold Oper.looksAt
          rw [hg]
          simp [ht, e]
    rw [this]
theorem osem_put {o : Oper} {tm : Nat → AV} {d : Option Nat} {v : AV} {D : Nat} (h : ∀ k, d = some k → k ∉ o.looksAt all) : AM.osem E.τ E.md o (evA (putA tm d v)) D = AM.osem E.τ E.md o (evA tm) D := by
  refine osem_congr fun x hx => evA_put fun k hk e => h k hk ?_
  subst e
  unfold Oper.looksAt
  refine List.mem_append_left _ (List.mem_filterMap.2 ⟨_, by simpa using hx, rfl⟩)
theorem putA_comm {tm : Nat → AV} {d e : Option Nat} {v v' : AV} (h : ∀ k, d = some k → e ≠ some k) : putA (putA tm d v) e v' = putA (putA tm e v') d v := by
  cases d with
  | none => rfl
  | some d =>
    cases e with
    | none => rfl
    | some e => exact upd_comm _ _ _ (fun he => h d rfl (he ▸ rfl))

theorem RunO.swap {x y : Oper} {s s1 s2 : AState} {A W B V : List Nat} (h1 : RunO E all x s s1 A W) (h2 : RunO E all y s1 s2 B V) (ha : x.apart all y = true) (hw : ∀ k, k ∈ W → k ∉ B) (hv : ∀ k, k ∈ V → k ∉ A) :
    ∃ t, RunO E all y s t B V ∧ RunO E all x t s2 A W := by
  obtain ⟨a1, a2, a3⟩ := Oper.apart_spec ha
  have c2 : ∀ {v v' : AV}, putA (putA s.tm x.dst v) y.dst v' = putA (putA s.tm y.dst v') x.dst v := putA_comm a2
  rcases h1 with ⟨g1, v, m1, A0, W0, e1, i1, j1, rfl⟩ | ⟨g1, rfl⟩
  · rcases h2 with ⟨g2, v2, m2, B0, V0, e2, i2, j2, rfl⟩ | ⟨g2, rfl⟩
    · simp only [gdb_put a1, osem_put a1] at g2 e2
      have sw := fun u u' => Ex.swap (e1 u) (e2 u') (fun k hk hb => hw k (j1 k hk) (i2 k hb)) (fun k hk hb => hv k (j2 k hk) (i1 k hb))
      refine ⟨⟨putA s.tm y.dst v2, over s.mem V0 m2, s.gs⟩, .inl ⟨g2, v2, _, B0, V0, fun u => (sw u u).1, i2, j2, rfl⟩, .inl ⟨by simpa only [gdb_put a3] using g1, v, m2, A0, W0, fun u => ?_, i1, j1, ?_⟩⟩
      · simp only [osem_put a3]; exact (sw u u).2
      · simp only [c2]
    · simp only [gdb_put a1] at g2
      refine ⟨⟨putA s.tm y.dst (.tup []), s.mem, s.gs⟩, .inr ⟨g2, rfl⟩, .inl ⟨by simpa only [gdb_put a3] using g1, v, m1, A0, W0, fun u => ?_, i1, j1, ?_⟩⟩
      · simp only [osem_put a3]; exact e1 u
      · simp only [c2]
  · rcases h2 with ⟨g2, v2, m2, B0, V0, e2, i2, j2, rfl⟩ | ⟨g2, rfl⟩
    · simp only [gdb_put a1, osem_put a1] at g2 e2
      exact ⟨⟨putA s.tm y.dst v2, m2, s.gs⟩, .inl ⟨g2, v2, m2, B0, V0, e2, i2, j2, rfl⟩, .inr ⟨by simpa only [gdb_put a3] using g1, by simp only [c2]⟩⟩
    · simp only [gdb_put a1] at g2
      exact ⟨⟨putA s.tm y.dst (.tup []), s.mem, s.gs⟩, .inr ⟨g2, rfl⟩, .inr ⟨by simpa only [gdb_put a3] using g1, by simp only [c2]⟩⟩

def RunI (E : Env) (all : Array Oper) (lg : Nat → List Nat × List Nat) (i : Nat) (s s' : AState) : Prop := ∃ o, all[i]? = some o ∧ RunO E all o s s' (lg i).1 (lg i).2
def RunL (E : Env) (all : Array Oper) (lg : Nat → List Nat × List Nat) : List Nat → AState → AState → Prop
  | [], s, s' => s' = s
  | i :: r, s, s' => ∃ s1, RunI E all lg i s s1 ∧ RunL E all lg r s1 s'
def Free (all : Array Oper) (lg : Nat → List Nat × List Nat) (j i : Nat) : Prop := apartAt all (j, i) = true ∧ (∀ k, k ∈ (lg j).2 → k ∉ (lg i).1) ∧ ∀ k, k ∈ (lg i).2 → k ∉ (lg j).1
theorem RunL.front {lg : Nat → List Nat × List Nat} {i : Nat} {R2 : List Nat} : ∀ (R1 : List Nat) {s s' : AState}, RunL E all lg (R1 ++ i :: R2) s s' → (∀ j, j ∈ R1 → Free all lg j i) → ∃ s1, RunI E all lg i s s1 ∧ RunL E all lg (R1 ++ R2) s1 s'
  | [], s, s', h, hf => h
  | j :: R1, s, s', h, hf => by
    obtain ⟨t, ⟨oj, hj, h1⟩, h2⟩ := h
    obtain ⟨t1, ⟨oi, hi, h3⟩, h4⟩ := RunL.front R1 h2 (fun k hk => hf k (by simp [hk]))
    obtain ⟨f1, f2, f3⟩ := hf j (by simp)
    simp only [apartAt, hj, hi] at f1
    obtain ⟨t', q1, q2⟩ := RunO.swap h1 h3 f1 f2 f3
    exact ⟨t', ⟨oi, hi, q1⟩, t1, ⟨oj, hj, q2⟩, h4⟩

theorem aopsD_run {K : AState → Prop} : ∀ (r : List Oper) (k : Nat) {s : AState} {lg0 : List (List Nat × List Nat)}, lg0.length = k → r = all.toList.drop k → aopsD E all K r s lg0 →
    ∃ lgs s', lgs.length = r.length ∧ logOk all (lg0.reverse ++ lgs) = true ∧ K s' ∧ RunL E all (fun i => (lg0.reverse ++ lgs).getD i ([], [])) (List.range' k r.length) s s'
  | [], k, s, lg0, hk, hr, h => ⟨[], s, rfl, by simpa using h.1, h.2, rfl⟩
  | o :: r, k, s, lg0, hk, hr, h => by
    have ho : all[k]? = some o := by
      rw [← Array.getElem?_toList]
      have := congrArg (·[0]?) hr
      simpa [List.getElem?_drop] using this.symm
    have hr2 : r = all.toList.drop (k + 1) := by
      have := congrArg (·.drop 1) hr
      simpa [List.drop_drop, Nat.add_comm] using this
    have step : ∀ {s1 : AState} {A W : List Nat}, aopsD E all K r s1 ((A, W) :: lg0) → RunO E all o s s1 A W → ∃ lgs s', lgs.length = (o :: r).length ∧ logOk all (lg0.reverse ++ lgs) = true ∧ K s' ∧ RunL E all (fun i => (lg0.reverse ++ lgs).getD i ([], [])) (List.range' k (o :: r).length) s s' := by
      intro s1 A W h hrun
      obtain ⟨lgs, s', q1, q2, q3, q4⟩ := aopsD_run r (k + 1) (by simp [hk]) hr2 h
      refine ⟨(A, W) :: lgs, s', by simp [q1], by simpa using q2, q3, s1, ⟨o, ho, ?_⟩, ?_⟩
      · simp only [List.getD_eq_getElem?_getD]
        rw [List.getElem?_append_right (by simp [hk]), List.length_reverse, hk, Nat.sub_self]
        exact hrun
      · simpa using q4
    unfold aopsD at h
    split at h
    · rename_i hg
      obtain ⟨v, m', A, W, A1, W1, e, l, l2, l3⟩ := wpoL_ex h
      exact step l (.inl ⟨by unfold gdb; rw [hg], v, m', A, W, e, fun k hk => l2 k (.inl hk), fun k hk => l3 k (.inl hk), rfl⟩)
    · rename_i j want hg
      unfold guardW at h
      split at h
      · rename_i b hb
        have hgb : gdb all o s.tm = some (b == want) := by unfold gdb; rw [hg]; simp only [hb]
        cases hc : (b == want) with
        | true =>
          obtain ⟨v, m', A, W, A1, W1, e, l, l2, l3⟩ := wpoL_ex (h.1 (by simpa using hc))
          exact step l (.inl ⟨hgb.trans (by rw [hc]), v, m', A, W, e, fun k hk => l2 k (.inl hk), fun k hk => l3 k (.inl hk), rfl⟩)
        | false => exact step (h.2 (by intro e; subst e; simp at hc)) (.inr ⟨hgb.trans (by rw [hc]), rfl⟩)
      · rename_i hb
        have hgb : gdb all o s.tm = some false := by unfold gdb; rw [hg]; simp only [hb]
        exact step h (.inr ⟨hgb, rfl⟩)
      · exact h.elim

/-! ### what is loose -/
def Down (all : Array Oper) (S : Nat → Prop) : Prop := ∀ i, S i → ∀ j, j ∈ direct all i → S j
theorem ancT_spec : ∀ (n i : Nat) (T : List (List Nat)), T.length = i → (∀ k A, T[k]? = some A → ∀ S, Down all S → (∀ j, j ∈ direct all k → S j) → ∀ j, j ∈ A → S j) →
    (ancT all n i T).length = i + n ∧ ∀ k A, (ancT all n i T)[k]? = some A → ∀ S, Down all S → (∀ j, j ∈ direct all k → S j) → ∀ j, j ∈ A → S j
  | 0, i, T, hl, h => ⟨hl, h⟩
  | n + 1, i, T, hl, h => by
    have := ancT_spec n (i + 1) (T ++ [dedup ((direct all i).flatMap fun j => j :: T.getD j [])]) (by simp [hl]) (fun k A hk S hS hd j hj => by
      rw [List.getElem?_append] at hk
      split at hk
      · exact h k A hk S hS hd j hj
      · rename_i hlt
        have : k = i := by
          rw [List.getElem?_singleton] at hk
          split at hk
          · omega
          · cases hk
        subst this
        rw [hl, Nat.sub_self] at hk
        simp at hk
        subst hk
        rw [mem_dedup, List.mem_flatMap] at hj
        obtain ⟨e, he, hj⟩ := hj
        rcases List.mem_cons.1 hj with rfl | hj
        · exact hd j he
        · cases hT : T[e]? with
          | none => rw [hT] at hj; cases hj
          | some A => rw [hT] at hj; exact h e A hT S hS (hS e (hd e he)) j hj)
    simp only [ancT]
    exact ⟨by rw [this.1]; omega, this.2⟩
theorem mem_looseAt {i : Nat} {A : List Nat} : ∀ {n j : Nat}, j < n → j ∉ A → (j, i) ∈ looseAt i A n
  | n + 1, j, hj, ha => by
    unfold looseAt
    by_cases he : j = n
    · subst he; rw [if_neg (by simpa using ha)]; simp
    · have := mem_looseAt (i := i) (n := n) (j := j) (by omega) ha
      split
      · exact this
      · exact List.mem_cons_of_mem _ this
theorem mem_looseL : ∀ {T : List (List Nat)} {b k j : Nat} {A : List Nat}, T[k]? = some A → j < b + k → j ∉ A → (j, b + k) ∈ looseL b T
  | A0 :: T, b, 0, j, A, hk, hj, ha => by
    simp at hk; subst hk
    exact List.mem_append_left _ (mem_looseAt hj ha)
  | A0 :: T, b, k + 1, j, A, hk, hj, ha => by
    have := mem_looseL (T := T) (b := b + 1) (k := k) (j := j) (A := A) (by simpa using hk) (by omega) ha
    rw [show b + (k + 1) = b + 1 + k by omega]
    exact List.mem_append_right _ this
/-- one that may come now, and one that is still to come, are loose -/
theorem loose_of {S : Nat → Prop} (hS : Down all S) {i j : Nat} (hi : ∀ k, k ∈ direct all i → S k) (hlt : i < all.size) (hj : j < i) (hn : ¬ S j) : (j, i) ∈ loose all := by
  obtain ⟨h1, h2⟩ := ancT_spec (all := all) all.size 0 [] rfl (by simp)
  have : i < (ancT all all.size 0 []).length := by rw [h1]; omega
  have hA := List.getElem?_eq_getElem this
  have := mem_looseL (b := 0) hA (by simpa using hj) (fun hm => hn (h2 i _ hA S hS hi j hm))
  simpa [loose] using this

theorem mem_direct {i : Nat} {o : Oper} (ho : all[i]? = some o) {j : Nat} : j ∈ direct all i ↔ ∃ e, e ∈ o.after ∧ Region.binds .any e = true ∧ e.on = j := by
  unfold direct
  rw [ho]
  simp [List.mem_map, List.mem_filter, and_assoc]

theorem any_ok (hτ : TTok E.P E.τ) {K : AState → Prop} {Q : Exit → Act → World → Prop} (hK : ∀ s a w, K s → Holds c gv N s a w → Q .normal a w) (hN : ∀ o, o ∈ all.toList → ∀ d, o.dst = some d → d < N) (ho : ordOk all = true)
    {lg : List (List Nat × List Nat)} (hl : logOk all lg = true) {s' : AState} (hs' : K s') :
    ∀ (fuel : Nat) (R : List Nat) (listed : Array Bool) {s : AState} {a : Act} {w : World}, R.length = fuel → listed.size = all.size → R.Pairwise (· < ·) → (∀ i, i ∈ R ↔ i < all.size ∧ listed.getD i false = false) → (Down all fun i => listed.getD i false = true) →
      RunL E all (fun i => lg.getD i ([], [])) R s s' → Holds c gv N s a w → wpAny E.P .any all Q fuel listed a w := by
  unfold ordOk at ho
  rw [Bool.and_eq_true, List.all_eq_true, List.all_eq_true] at ho
  unfold logOk at hl
  rw [List.all_eq_true] at hl
  have disj : ∀ {xs ys : List Nat}, disjB xs ys = true → ∀ k, k ∈ xs → k ∉ ys := fun h k hk => by
    unfold disjB at h
    rw [List.all_eq_true] at h
    simpa using h k hk
  have rd : ∀ {listed : Array Bool} {i : Nat}, i ∈ Region.ready .any all listed → listed.size = all.size → i < all.size ∧ listed.getD i false = false ∧ ∀ k, k ∈ direct all i → listed.getD k false = true := by
    intro listed i hi hsz
    obtain ⟨h1, o, h2, h3⟩ := mem_ready.1 hi
    have hlt := (Array.getElem?_eq_some_iff.1 h2).1
    refine ⟨hlt, ?_, fun k hk => ?_⟩
    · rw [Array.getD_eq_getD_getElem?] at h1 ⊢
      cases hx : listed[i]? with
      | none => rfl
      | some b => rw [hx] at h1; exact h1
    · obtain ⟨e, e1, e2, rfl⟩ := (mem_direct h2).1 hk
      exact h3 e e1 e2
  intro fuel
  induction fuel with
  | zero =>
    intro R listed s a w hR hsz hp hm hD hrun H
    have : R = [] := List.length_eq_zero_iff.1 hR
    subst this
    simp only [RunL] at hrun
    subst hrun
    refine ⟨?_, hK _ _ _ hs' H⟩
    cases hr : Region.ready .any all listed with
    | nil => rfl
    | cons i r =>
      obtain ⟨h1, h2, _⟩ := rd (i := i) (by rw [hr]; simp) hsz
      have := (hm i).2 ⟨h1, h2⟩
      cases this
  | succ fuel ih =>
    intro R listed s a w hR hsz hp hm hD hrun H
    refine ⟨fun hnil => ?_, fun i hi => ?_⟩
    · exfalso
      match R, hR with
      | i :: r, hR =>
        obtain ⟨h1, h2⟩ := (hm i).1 (by simp)
        have : i ∈ Region.ready .any all listed := by
          refine mem_ready.2 ⟨?_, all[i], Array.getElem?_eq_getElem h1, fun e he hb => ?_⟩
          · rw [Array.getD_eq_getD_getElem?] at h2 ⊢
            rw [Array.getElem?_eq_getElem (by omega)] at h2 ⊢
            exact h2
          · have hd : e.on ∈ direct all i := (mem_direct (Array.getElem?_eq_getElem h1)).2 ⟨e, he, hb, rfl⟩
            have hlt := ho.1 i (by simpa using h1)
            rw [List.all_eq_true] at hlt
            have hlt := of_decide_eq_true (hlt _ hd)
            cases hx : listed.getD e.on false with
            | true => rfl
            | false =>
              have := (hm e.on).2 ⟨by omega, hx⟩
              rcases List.mem_cons.1 this with h | h
              · omega
              · have := List.rel_of_pairwise_cons hp h; omega
        rw [hnil] at this; cases this
    · obtain ⟨h1, h2, h3⟩ := rd hi hsz
      have hiR := (hm i).2 ⟨h1, h2⟩
      obtain ⟨R1, R2, rfl⟩ := List.append_of_mem hiR
      have hpw := List.pairwise_append.1 hp
      obtain ⟨s1, ⟨o, hoi, hrun1⟩, hrun2⟩ := RunL.front R1 hrun (fun j hj => by
        have hji : j < i := hpw.2.2 j hj i (by simp)
        have hjn := (hm j).1 (by simp [hj])
        have hmem := loose_of hD h3 h1 hji (by simp [hjn.2])
        have hlg := hl _ hmem
        rw [Bool.and_eq_true] at hlg
        exact ⟨ho.2 _ hmem, disj hlg.1, disj hlg.2⟩)
      have hoN := hN o (by rw [← Array.getElem?_toList] at hoi; exact List.mem_of_getElem? hoi)
      have next : ∀ {a' w'}, Holds c gv N s1 a' w' → wpAny E.P .any all Q fuel (listed.setIfInBounds i true) a' w' := fun H' =>
        ih (R1 ++ R2) _ (by simp at hR ⊢; omega) (by simpa using hsz) (hp.sublist (by simp)) (fun j => by
          by_cases he : j = i
          · subst he
            have hnd : (R1 ++ j :: R2).Nodup := hp.imp (fun h => Nat.ne_of_lt h)
            rw [Array.getD_eq_getD_getElem?, Array.getElem?_setIfInBounds_self_of_lt (by omega)]
            simp only [Option.getD_some, Bool.true_eq_false, and_false, iff_false]
            rw [(List.perm_middle (l₁ := R1) (l₂ := R2) (a := j)).nodup_iff, List.nodup_cons] at hnd
            exact hnd.1
          · rw [getD_set_ne false (Ne.symm he), ← hm j]
            simp [he]) (fun k hk j hj => by
          by_cases he : k = i
          · subst he; exact getD_set_true (h3 j hj)
          · simp only [getD_set_ne false (Ne.symm he)] at hk
            exact getD_set_true (hD k hk j hj)) hrun2 H'
      unfold wpOp
      rw [hoi]
      simp only
      have hg : ∀ b, gdb all o s.tm = some b → Region.wanted o (yielded all a.tmps) = b := by
        intro b hb
        unfold gdb at hb
        cases hgd : o.guard with
        | none => rw [hgd] at hb; simp at hb; subst hb; unfold Region.wanted; rw [hgd]
        | some p =>
          obtain ⟨j, want⟩ := p
          rw [hgd] at hb
          simp only at hb
          split at hb
          · rename_i b' hb'
            rw [guard_ok hgd H hb']
            simpa using hb
          · rename_i hb'
            rw [guard_none hgd H hb']
            simpa using hb
          · cases hb
      rcases hrun1 with ⟨g1, v, m1, A0, W0, e1, i1, j1, rfl⟩ | ⟨g1, rfl⟩
      · rw [hg _ g1, if_pos rfl]
        refine .inl ?_
        obtain ⟨hd, fp, q1, q2, q3, q4, q5⟩ := H
        obtain ⟨u, hu⟩ := osem_u (md := E.md) (o := o) (D := baseOf o.dst) hτ q1 (fun x => evA_ok q2 x)
        refine hu _ _ _ _ (e1 u) _ Q fun vv w' hd' fp' k1 k2 k3 => next ?_
        exact ⟨hd', fp', k2, Rel.put (Rel.evo k3 q2) k1 (fun d hd => by rw [q5]; exact hoN d hd), AVokL.evo k3 _ q3, (put_defers' a _ vv).trans q4, (put_size a _ vv).trans q5⟩
      · rw [hg _ g1, if_neg (by simp)]
        exact next (skip_ok hoN H)
end
end Go.AM
/- AN ABSTRACT MACHINE, 19: code: what is to be shown of a body; it is enough. No condition of its own. -/
namespace Go.AM
open Go AM

/-- whatever is as s says is as s' says -/
def Le (s s' : AState) : Prop := ∀ c gv N a w, Holds c gv N s a w → Holds c gv N s' a w
theorem Le.refl (s : AState) : Le s s := fun _ _ _ _ _ h => h
theorem Le.trans {s t r : AState} (h : Le s t) (k : Le t r) : Le s r := fun c gv N a w hh => k c gv N a w (h c gv N a w hh)

def condW (b : AV) (yes no : Prop) : Prop :=
  match b with
  | .bool c => (c = true → yes) ∧ (c = false → no)
  | _ => False
def thenQ (K : AState → Prop) (Q : Exit → AState → Prop) : Exit → AState → Prop
  | .normal, s => K s
  | e, s => Q e s
def blockQ (id : Nat) (Q : Exit → AState → Prop) : Exit → AState → Prop
  | .exit j, s => if j = id then Q .normal s else Q (.exit j) s
  | e, s => Q e s
/-- what is to be shown of code -/
def aw (E : Env) : Code → (Exit → AState → Prop) → AState → Prop
  | .skip, Q, s => Q .normal s
  | .region _ ops false, Q, s => aops E ops (Q .normal) ops.toList s
  | .region _ ops true, Q, s => ordOk ops = true ∧ aopsD E ops (Q .normal) ops.toList s []
  | .seq a b, Q, s => aw E a (thenQ (fun s => ∃ s', Le s s' ∧ aw E b Q s') Q) s
  | .cond c x y, Q, s => condW (evA s.tm c) (aw E x Q s) (aw E y Q s)
  | .block id b, Q, s => aw E b (blockQ id Q) s
  | .loop b, Q, s => ∃ (α : Type) (J : α → AState) (μ : α → Nat) (x : α), Le s (J x) ∧ ∀ x, aw E b (thenQ (fun s => ∃ x', μ x' < μ x ∧ Le s (J x')) Q) (J x)
  | .exit id, Q, s => Q (.exit id) s
  | .ret, Q, s => Q .ret s
  | _, _, _ => False
def dstOk (N : Nat) : Code → Bool
  | .region _ ops _ => ops.toList.all fun o => match o.dst with
    | some d => decide (d < N)
    | none => true
  | .seq a b => dstOk N a && dstOk N b
  | .cond _ x y => dstOk N x && dstOk N y
  | .block _ b => dstOk N b
  | .loop b => dstOk N b
  | _ => true

structure EnvOk (E : Env) : Prop where
  τ : TTok E.P E.τ
  mixed : E.P.follows .mixedOrders = true

def postOf (c : Ctx) (gv : List Value) (N : Nat) (Q : Exit → AState → Prop) (e : Exit) (a : Act) (w : World) : Prop := ∃ s, Q e s ∧ Holds c gv N s a w

theorem cond_val {c : Ctx} {gv : List Value} {N : Nat} {s : AState} {a : Act} {w : World} (H : Holds c gv N s a w) {x : Operand} {b : Bool} (h : evA s.tm x = .bool b) : a.eval x = .bool b := by
  obtain ⟨hd, fp, _, h2, _⟩ := H
  have := evA_ok h2 x
  rw [h] at this
  simpa only [AVok] using this

theorem aw_ok {E : Env} (hE : EnvOk E) {c : Ctx} {gv : List Value} {N : Nat} : ∀ (code : Code) {Q : Exit → AState → Prop} {s : AState} {a : Act} {w : World}, aw E code Q s → dstOk N code = true → Holds c gv N s a w → code.wp E.P (postOf c gv N Q) a w
  | .skip, Q, s, a, w, h, hN, H => wp_skip ⟨s, h, H⟩
  | .region id ops false, Q, s, a, w, h, hN, H => by
    simp only [aw] at h
    simp only [dstOk, List.all_eq_true] at hN
    refine wp_region ?_
    rw [List.range_eq_range']
    exact aops_ok hE.τ (K := Q .normal) (fun s a w k hh => ⟨s, k, hh⟩) (fun o ho d hd => by have := hN o ho; rw [hd] at this; simpa using this) ops.size 0 (by simp) (by simpa using h) H
  | .region id ops true, Q, s, a, w, h, hN, H => by
    simp only [aw] at h
    simp only [dstOk, List.all_eq_true] at hN
    obtain ⟨ho, h⟩ := h
    refine wp_region_any hE.mixed ?_
    have H' : Holds c gv N s a { w with drawn := w.drawn + 1 } := by
      obtain ⟨hd, fp, h1, h2⟩ := H
      exact ⟨hd, fp, { h1 with }, h2⟩
    obtain ⟨lgs, s', q1, q2, q3, q4⟩ := aopsD_run ops.toList 0 rfl (by simp) h
    refine any_ok hE.τ (K := Q .normal) (fun s a w k hh => ⟨s, k, hh⟩) (fun o ho d hd => by have := hN o ho; rw [hd] at this; simpa using this) ho (lg := lgs) (by simpa using q2) q3 ops.size (List.range ops.size) _ (by simp) (by simp) ?_ (fun i => ?_) (fun i hi => ?_) ?_ H'
    · exact List.pairwise_lt_range
    · rw [List.mem_range]
      constructor
      · intro hlt
        refine ⟨hlt, ?_⟩
        rw [Array.getD_eq_getD_getElem?, Array.getElem?_replicate, if_pos hlt]; rfl
      · exact fun h => h.1
    · have hi : (Array.replicate ops.size false).getD i false = true := hi
      rw [Array.getD_eq_getD_getElem?, Array.getElem?_replicate] at hi
      split at hi <;> simp at hi
    · rw [List.range_eq_range']
      simpa using q4
  | .seq x y, Q, s, a, w, h, hN, H => by
    simp only [aw] at h
    simp only [dstOk, Bool.and_eq_true] at hN
    refine wp_seq (wp_mono (aw_ok hE x h hN.1 H) fun e a' w' hq => ?_)
    obtain ⟨s', k, hh⟩ := hq
    cases e <;> first | exact ⟨s', k, hh⟩ | skip
    obtain ⟨t, hle, k⟩ := k
    exact aw_ok hE y k hN.2 (hle _ _ _ _ _ hh)
  | .cond x p q, Q, s, a, w, h, hN, H => by
    simp only [aw] at h
    simp only [dstOk, Bool.and_eq_true] at hN
    unfold condW at h
    split at h
    · rename_i b hb
      refine wp_cond_split (cond_val H hb) (fun hb' => ?_) (fun hb' => ?_)
      · exact aw_ok hE p (h.1 hb') hN.1 H
      · exact aw_ok hE q (h.2 hb') hN.2 H
    · exact h.elim
  | .block id b, Q, s, a, w, h, hN, H => by
    simp only [aw] at h
    simp only [dstOk] at hN
    refine wp_block (wp_mono (aw_ok hE b h hN H) fun e a' w' hq => ?_)
    obtain ⟨s', k, hh⟩ := hq
    cases e with
    | exit j =>
      simp only [Exit.inBlock, blockQ] at k ⊢
      split at k
      · rename_i hj; rw [if_pos hj]; exact ⟨s', k, hh⟩
      · rename_i hj; rw [if_neg hj]; exact ⟨s', k, hh⟩
    | _ => exact ⟨s', k, hh⟩
  | .loop b, Q, s, a, w, h, hN, H => by
    simp only [aw] at h
    simp only [dstOk] at hN
    obtain ⟨α, J, μ, x, h0, hr⟩ := h
    have H0 := h0 _ _ _ _ _ H
    -- the least measure of what holds
    have least : ∀ (a : Act) (w : World), (∃ x, Holds c gv N (J x) a w) → ∃ x, Holds c gv N (J x) a w ∧ ∀ y, Holds c gv N (J y) a w → μ x ≤ μ y := by
      intro a w ⟨x, hx⟩
      have : ∀ n x, μ x = n → Holds c gv N (J x) a w → ∃ x, Holds c gv N (J x) a w ∧ ∀ y, Holds c gv N (J y) a w → μ x ≤ μ y := by
        intro n
        induction n using Nat.strongRecOn with
        | _ n ih =>
          intro x hn hx
          by_cases hall : ∀ y, Holds c gv N (J y) a w → μ x ≤ μ y
          · exact ⟨x, hx, hall⟩
          · have : ∃ y, Holds c gv N (J y) a w ∧ μ y < μ x := by
              refine Classical.byContradiction fun hno => hall fun y hy => ?_
              exact Nat.le_of_not_lt fun hlt => hno ⟨y, hy, hlt⟩
            obtain ⟨y, hy, hlt⟩ := this
            exact ih (μ y) (hn ▸ hlt) y rfl hy
      exact this _ x rfl hx
    let M : Act → World → Nat := fun a w => @dite Nat (∃ x, Holds c gv N (J x) a w) (Classical.propDecidable _) (fun h => μ (Classical.choose (least a w h))) (fun _ => 0)
    have hM : ∀ a w, (∃ x, Holds c gv N (J x) a w) → ∃ x, Holds c gv N (J x) a w ∧ M a w = μ x ∧ ∀ y, Holds c gv N (J y) a w → M a w ≤ μ y := by
      intro a w h
      have e : M a w = μ (Classical.choose (least a w h)) := dif_pos h
      have sp := Classical.choose_spec (least a w h)
      exact ⟨_, sp.1, e, fun y hy => by rw [e]; exact sp.2 y hy⟩
    refine wp_loop (fun a w => ∃ x, Holds c gv N (J x) a w) M ⟨x, H0⟩ fun a w hI => ?_
    obtain ⟨x, hx, ex, hle⟩ := hM a w hI
    refine wp_mono (aw_ok hE b (hr x) hN hx) fun e a' w' hq => ?_
    obtain ⟨s', k, hh⟩ := hq
    cases e with
    | normal =>
      obtain ⟨x', hlt, hl⟩ := k
      have hx' := hl _ _ _ _ _ hh
      obtain ⟨y, _, _, hle'⟩ := hM a' w' ⟨x', hx'⟩
      refine ⟨⟨x', hx'⟩, ?_⟩
      rw [ex]
      exact Nat.lt_of_le_of_lt (hle' x' hx') hlt
    | _ => exact ⟨s', k, hh⟩
  | .exit id, Q, s, a, w, h, hN, H => wp_exit ⟨s, h, H⟩
  | .ret, Q, s, a, w, h, hN, H => wp_ret ⟨s, h, H⟩
  | .rangeFunc .., Q, s, a, w, h, hN, H => by simp only [aw] at h
  | .scope _, Q, s, a, w, h, hN, H => by simp only [aw] at h
  | .label _, Q, s, a, w, h, hN, H => by simp only [aw] at h
  | .goto _, Q, s, a, w, h, hN, H => by simp only [aw] at h
  | .refuse _, Q, s, a, w, h, hN, H => by simp only [aw] at h

theorem wpo_mono {P : Program} {α : Type} {L L' : α → Mem → Prop} (h : ∀ v m, L v m → L' v m) : ∀ {p : AM α} {m : Mem}, wpo P p m L → wpo P p m L'
  | .ret v, m, k => h _ _ k
  | .fail, m, k => k
  | .req p q, m, k => ⟨k.1, wpo_mono h k.2⟩
  | .pick q, m, k => fun b => wpo_mono h (k b)
  | .look l q, m, k => wpo_mono (p := q l) h k
  | .get nm q, m, k => wpo_mono (p := q (m nm)) h k
  | .set nm b q, m, k => wpo_mono (p := q) h k
  | .call f pas q, m, k => by obtain ⟨res, pbs, g, k⟩ := k; exact ⟨res, pbs, g, wpo_mono h k⟩
theorem wpoL_mono {P : Program} {L L' : AV → Mem → List Nat → List Nat → Prop} (h : ∀ v m A W, L v m A W → L' v m A W) : ∀ {p : AM AV} {m : Mem} {A W : List Nat}, wpoL P p m A W L → wpoL P p m A W L'
  | .ret v, m, A, W, k => h _ _ _ _ k
  | .fail, m, A, W, k => k
  | .req p q, m, A, W, k => ⟨k.1, wpoL_mono h k.2⟩
  | .pick q, m, A, W, k => k
  | .look l q, m, A, W, k => wpoL_mono (p := q l) h k
  | .get nm q, m, A, W, k => wpoL_mono (p := q (m nm)) h k
  | .set nm b q, m, A, W, k => wpoL_mono (p := q) h k
  | .call f pas q, m, A, W, k => by obtain ⟨res, pbs, g, k⟩ := k; exact ⟨res, pbs, g, wpoL_mono h k⟩
theorem guardW_mono {b : AV} {want : Bool} {y n y' n' : Prop} (hy : y → y') (hn : n → n') (h : guardW b want y n) : guardW b want y' n' := by
  unfold guardW at *
  split at h
  · exact ⟨fun e => hy (h.1 e), fun e => hn (h.2 e)⟩
  · exact hn h
  · exact h
theorem aops_mono {E : Env} {all : Array Oper} {K K' : AState → Prop} (h : ∀ s, K s → K' s) : ∀ {r : List Oper} {s : AState}, aops E all K r s → aops E all K' r s
  | [], s, k => h _ k
  | o :: r, s, k => by
    unfold aops at k ⊢
    split at k
    · exact wpo_mono (fun v m q => aops_mono h q) k
    · exact guardW_mono (wpo_mono (fun v m q => aops_mono h q)) (aops_mono h) k
theorem aopsD_mono {E : Env} {all : Array Oper} {K K' : AState → Prop} (h : ∀ s, K s → K' s) : ∀ {r : List Oper} {s : AState} {lg : List (List Nat × List Nat)}, aopsD E all K r s lg → aopsD E all K' r s lg
  | [], s, lg, k => ⟨k.1, h _ k.2⟩
  | o :: r, s, lg, k => by
    unfold aopsD at k ⊢
    split at k
    · exact wpoL_mono (fun v m A W q => aopsD_mono h q) k
    · exact guardW_mono (wpoL_mono (fun v m A W q => aopsD_mono h q)) (aopsD_mono h) k
theorem aw_mono {E : Env} : ∀ (code : Code) {Q Q' : Exit → AState → Prop} {s : AState}, (∀ e s, Q e s → Q' e s) → aw E code Q s → aw E code Q' s
  | .skip, Q, Q', s, h, k => h _ _ k
  | .region _ ops false, Q, Q', s, h, k => aops_mono (h .normal) k
  | .region _ ops true, Q, Q', s, h, k => ⟨k.1, aopsD_mono (h .normal) k.2⟩
  | .seq a b, Q, Q', s, h, k => aw_mono a (fun e s q => by
    cases e <;> first | exact h _ _ q | skip
    obtain ⟨s', h1, h2⟩ := q
    exact ⟨s', h1, aw_mono b h h2⟩) k
  | .cond c x y, Q, Q', s, h, k => by
    simp only [aw] at k ⊢
    unfold condW at *
    split at k
    · exact ⟨fun e => aw_mono x h (k.1 e), fun e => aw_mono y h (k.2 e)⟩
    · exact k
  | .block id b, Q, Q', s, h, k => aw_mono b (fun e s q => by
    cases e <;> first | exact h _ _ q | skip
    simp only [blockQ] at q ⊢
    split at q
    · rename_i e; rw [if_pos e]; exact h _ _ q
    · rename_i e; rw [if_neg e]; exact h _ _ q) k
  | .loop b, Q, Q', s, h, k => by
    obtain ⟨α, J, μ, x, h0, hr⟩ := k
    exact ⟨α, J, μ, x, h0, fun x => aw_mono b (fun e s q => by cases e <;> first | exact h _ _ q | exact q) (hr x)⟩
  | .exit id, Q, Q', s, h, k => h _ _ k
  | .ret, Q, Q', s, h, k => h _ _ k
  | .rangeFunc .., Q, Q', s, h, k => k
  | .scope _, Q, Q', s, h, k => k
  | .label _, Q, Q', s, h, k => k
  | .goto _, Q, Q', s, h, k => k
  | .refuse _, Q, Q', s, h, k => k
end Go.AM
/- AN ABSTRACT MACHINE, 20: a function: what it is handed becomes a state, a state becomes what it gives; its contract from 'aw'. No condition of its own. -/
namespace Go.AM
open Go AM

/-! ### what is handed -/
mutual
def entA (j tg : Nat) (m : Mem) : PA → AV × Mem × Nat × Nat
  | .ro t => match t with
    | .row sz n cs => (.ro (some tg) sz n cs, m, j, tg + 1)
    | t => (t.av, m, j, tg)
  | .own t => match t with
    | .row sz n cs => (.own j 0, upd m j (some (.row 0 0 sz n cs)), j + 1, tg)
    | _ => (.any, m, j, tg)
  | .box t cs => match entL (j + 1) tg m cs with
    | (xs, m1, j1, tg1) => (.ptr j 0 0 0, upd m1 j (some (.box 0 t xs)), j1, tg1)
  | .agg cs => match entL j tg m cs with
    | (xs, m1, j1, tg1) => (.agg xs, m1, j1, tg1)
  | .fn f => (.fn f, m, j, tg)
  | .nils => (.nils, m, j, tg)
def entL (j tg : Nat) (m : Mem) : List PA → List AV × Mem × Nat × Nat
  | [] => ([], m, j, tg)
  | p :: ps => match entA j tg m p with
    | (x, m1, j1, tg1) => match entL j1 tg1 m1 ps with
      | (xs, m2, j2, tg2) => (x :: xs, m2, j2, tg2)
end
def startOf (r : List AV × Mem × Nat × Nat) : AState := ⟨fun t => r.1.getD t .any, r.2.1, r.1⟩
/-- the state at a function's head -/
def start (pas : List PA) : AState := startOf (entL 0 0 (fun _ => none) pas)

/-! ### what is given -/
namespace AM
def outR {α : Type} (τ : TTab) (t : Nat) (x : AV) (k : Tr → AM α) : AM α :=
  match τ t with
  | some i => match i.kd.agg with
    | true => match x with
      | .agg xs => toTL i.sh xs fun ts => k (.agg ts)
      | _ => .fail
    | false => match i.sh with
      | [.pt e] => match x with
        | .ptr nm g 0 0 => getBox nm g fun t' cs => if t' = e then (match τ e with
            | some j => .set nm (.gone g) (toTL j.sh cs fun ts => k (.box e ts))
            | none => .fail) else .fail
        | _ => .fail
      | [c] => toT c x k
      | _ => .fail
  | none => .fail
def outRL {α : Type} (τ : TTab) : List Nat → List AV → (List Tr → AM α) → AM α
  | [], [], k => k []
  | t :: ts, x :: xs, k => outR τ t x fun r => outRL τ ts xs fun rs => k (r :: rs)
  | _, _, _ => .fail
def outRes {α : Type} (τ : TTab) (ts : List Nat) (xs : List AV) (k : Tr → AM α) : AM α :=
  match ts, xs with
  | [t], [x] => outR τ t x k
  | ts, xs => outRL τ ts xs fun rs => k (.tup rs)
def outG1 {α : Type} (x : AV) (k : PB → AM α) : AM α :=
  match x with
  | .own nm g => .get nm fun
    | some (.row g' _ sz n cs) => if g' = g then .set nm (.gone g) (k (.own (.row sz n cs))) else k .gone
    | _ => k .gone
  | _ => k .keep
def outGL {α : Type} : List AV → (List PB → AM α) → AM α
  | [], k => k []
  | x :: xs, k => outG1 x fun p => outGL xs fun ps => k (p :: ps)
def outG {α : Type} (τ : TTab) (x : AV) (k : PB → AM α) : AM α :=
  match x with
  | .ptr nm g 0 0 => getBox nm g fun t cs => match τ t with
    | some j => .set nm (.gone g) (toTL j.sh cs fun ts => k (.box ts))
    | none => .fail
  | .ptr _ _ _ _ => .fail
  | .agg xs => outGL xs fun ps => k (.agg ps)
  | x => outG1 x k
def outGs {α : Type} (τ : TTab) : List AV → (List PB → AM α) → AM α
  | [], k => k []
  | x :: xs, k => outG τ x fun p => outGs τ xs fun ps => k (p :: ps)
/-- the results' values -/
def resAs {α : Type} (τ : TTab) (tm : Nat → AV) : List ResultVar → (List AV → AM α) → AM α
  | [], k => k []
  | .tmp t :: r, k => resAs τ tm r fun xs => k (tm t :: xs)
  | .cell a t :: r, k => (loadA τ t (tm a)).bind fun x => resAs τ tm r fun xs => k (x :: xs)
def outAll (τ : TTab) (ts : List Nat) (rs : List ResultVar) (tm : Nat → AV) (gs : List AV) : AM (Tr × List PB) := resAs τ tm rs fun xs => outRes τ ts xs fun r => outGs τ gs fun ps => .ret (r, ps)
end AM
def finQ (E : Env) (ts : List Nat) (rs : List ResultVar) (res : Tr) (pbs : List PB) (e : Exit) (s : AState) : Prop :=
  match e with
  | .normal | .ret => wpo E.P (AM.outAll E.τ ts rs s.tm s.gs) s.mem fun r _ => r = (res, pbs)
  | _ => False
inductive RG (α : Type) where
  | ok (a : α)
  | look (L : List Tr) (k : List Tr → AM α) (m : Mem)
  | fail
def runG {α : Type} : AM α → Mem → RG α
  | .ret a, m => .ok a
  | .look l k, m => .look l k m
  | .get nm k, m => runG (k (m nm)) m
  | .set nm b k, m => runG k (upd m nm (some b))
  | _, m => .fail
theorem f_run {P : Program} {α : Type} {a : α} : ∀ {p : AM α} {m : Mem}, (match runG p m with
    | .ok x => x = a
    | .look l k m' => wpo P (k l) m' fun r _ => r = a
    | .fail => False) → wpo P p m fun r _ => r = a
  | .ret x, m, h => by simpa only [runG, wpo] using h
  | .look l k, m, h => by simpa only [runG, wpo] using h
  | .get nm k, m, h => by simp only [runG] at h; simp only [wpo]; exact f_run h
  | .set nm b k, m, h => by simp only [runG] at h; simp only [wpo]; exact f_run h
  | .fail, m, h => by simp only [runG] at h
  | .req p k, m, h => by simp only [runG] at h
  | .pick k, m, h => by simp only [runG] at h
  | .call f pas k, m, h => by simp only [runG] at h
theorem f_ok {E : Env} {ts : List Nat} {rs : List ResultVar} {res : Tr} {pbs : List PB} {s : AState} {x : Tr × List PB} (h : runG (AM.outAll E.τ ts rs s.tm s.gs) s.mem = .ok x) (hx : x = (res, pbs)) : wpo E.P (AM.outAll E.τ ts rs s.tm s.gs) s.mem fun r _ => r = (res, pbs) :=
  f_run (by rw [h]; exact hx)
theorem f_look {P : Program} {α : Type} {a : α} {p : AM α} {m m' : Mem} {l l' : List Tr} {k : List Tr → AM α} (h : runG p m = .look l k m') (he : l = l') (hk : wpo P (k l') m' fun r _ => r = a) : wpo P p m fun r _ => r = a :=
  f_run (by rw [h]; subst he; exact hk)
theorem f_ok' {P : Program} {α : Type} {a x : α} {p : AM α} {m : Mem} (h : runG p m = .ok x) (hx : x = a) : wpo P p m fun r _ => r = a :=
  f_run (by rw [h]; exact hx)
theorem Ex.bind {P : Program} {α β : Type} {f : α → AM β} : ∀ (p : AM α) {u m y m' A W}, Ex P (p.bind f) u m y m' A W → ∃ v m1 A1 W1 u' A2 W2, Ex P p u m v m1 A1 W1 ∧ Ex P (f v) u' m1 y m' A2 W2
  | .ret a, u, m, y, m', A, W, h => ⟨a, m, [], [], u, A, W, by simp [Ex], h⟩
  | .fail, u, m, y, m', A, W, h => by simp only [AM.bind, Ex] at h
  | .req p k, u, m, y, m', A, W, h => by
    simp only [AM.bind, Ex] at h
    obtain ⟨v, m1, A1, W1, u', A2, W2, h1, h2⟩ := Ex.bind k h.2
    exact ⟨v, m1, A1, W1, u', A2, W2, ⟨h.1, h1⟩, h2⟩
  | .pick k, u, m, y, m', A, W, h => by
    simp only [AM.bind, Ex] at h
    obtain ⟨v, m1, A1, W1, u', A2, W2, h1, h2⟩ := Ex.bind (k (u 0)) h
    exact ⟨v, m1, A1, W1, u', A2, W2, h1, h2⟩
  | .look L k, u, m, y, m', A, W, h => by
    simp only [AM.bind, Ex] at h
    obtain ⟨v, m1, A1, W1, u', A2, W2, h1, h2⟩ := Ex.bind (k L) h
    exact ⟨v, m1, A1, W1, u', A2, W2, h1, h2⟩
  | .get nm k, u, m, y, m', A, W, h => by
    simp only [AM.bind, Ex] at h
    obtain ⟨B, rfl, h⟩ := h
    obtain ⟨v, m1, A1, W1, u', A2, W2, h1, h2⟩ := Ex.bind (k (m nm)) h
    exact ⟨v, m1, nm :: A1, W1, u', A2, W2, ⟨A1, rfl, h1⟩, h2⟩
  | .set nm b k, u, m, y, m', A, W, h => by
    simp only [AM.bind, Ex] at h
    obtain ⟨B, V, rfl, rfl, h⟩ := h
    obtain ⟨v, m1, A1, W1, u', A2, W2, h1, h2⟩ := Ex.bind k h
    exact ⟨v, m1, nm :: A1, nm :: W1, u', A2, W2, ⟨A1, W1, rfl, rfl, h1⟩, h2⟩
  | .call f pas k, u, m, y, m', A, W, h => by
    simp only [AM.bind, Ex] at h
    obtain ⟨res, pbs, g, h⟩ := h
    obtain ⟨v, m1, A1, W1, u', A2, W2, h1, h2⟩ := Ex.bind (k res pbs) h
    exact ⟨v, m1, A1, W1, u', A2, W2, ⟨res, pbs, g, h1⟩, h2⟩

section
variable {P : Program} {c : Ctx} {hd : Nat → Value} {fp : Nat → List Nat} {m m' : Mem} {w : World} {X Y : List Nat} {u : Nat → Bool} {A W : List Nat} {τ : TTab} {α : Type} {y : α}

theorem outR_ok {t : Nat} {x : AV} {v : Value} {k : Tr → AM α} (H : HM c hd fp m w X) (hx : AVok c hd m w.heap x v) (hE : Ex P (outR τ t x k) u m y m' A W) :
    ∃ r m1 fp1 F A1 W1, Ex P (k r) u m1 y m' A1 W1 ∧ HM c hd fp1 m1 w (F ++ X) ∧ Ow w.heap c.tags r v F ∧ Evo hd m w.heap hd m1 w.heap := by
  unfold outR at hE
  split at hE
  · rename_i i hi
    split at hE
    · split at hE
      · simp only [AVok] at hx
        obtain ⟨vs, rfl, h2, h3⟩ := hx
        obtain ⟨ts, m1, fp1, F, A1, W1, q1, q2, q3, q4, q5, q6⟩ := toTL_ok _ _ H h2 hE
        exact ⟨_, m1, fp1, F, A1, W1, q1, q2, by simp only [Ow]; exact ⟨vs, rfl, q3⟩, q5⟩
      · simp only [Ex] at hE
    · split at hE
      · split at hE
        · rename_i e nm g
          obtain ⟨t', cs, B, rfl, hm, hE⟩ := getBox_ok hE
          split at hE
          · rename_i ht
            subst ht
            split at hE
            · simp only [Ex] at hE
              obtain ⟨B2, V, _, _, hE⟩ := hE
              have hb := H.blk nm _ hm
              simp only [BlkOk] at hb
              obtain ⟨b, cur, e0, fr, h1, h2, h3, h4, h5, h6⟩ := hb
              obtain ⟨k1, k2⟩ := H.out hm (g := g) rfl
              obtain ⟨ts, m1, fp1, F, A1, W1, q1, q2, q3, q4, q5, q6⟩ := toTL_ok _ _ k1 (AVokL.evo k2 cs h4) hE
              rw [h6] at q2
              refine ⟨_, m1, fp1, b :: F, A1, W1, q1, q2.pocket ?_, ?_, k2.trans q5⟩
              · rw [List.cons_append]
                exact (List.perm_middle (l₁ := F) (l₂ := X) (a := b)).symm
              · simp only [AVok] at hx
                obtain ⟨b2, hb2, hg2, hk2⟩ := hx.2
                rw [hm] at hb2; injection hb2 with hb2; subst hb2
                obtain ⟨_, b3, r1, r2⟩ := hk2 rfl
                rw [h1] at r1; injection r1 with r1; injection r1 with r1; injection r1 with r1
                simp only [Ow]
                exact ⟨b, cur, e0, fr, F, by rw [r2, r1], h2, h3, q4, q3, rfl⟩
            · simp only [Ex] at hE
          · simp only [Ex] at hE
        · simp only [Ex] at hE
      · obtain ⟨r, m1, fp1, F, A1, W1, q1, q2, q3, _, q5⟩ := toT_ok H hx hE
        exact ⟨r, m1, fp1, F, A1, W1, q1, q2, q3, q5⟩
      · simp only [Ex] at hE
  · simp only [Ex] at hE

theorem outRL_ok {P : Program} {c : Ctx} {hd : Nat → Value} {w : World} {τ : TTab} {α : Type} {y : α} {u : Nat → Bool} {m' : Mem} : ∀ (ts : List Nat) (xs : List AV) {fp : Nat → List Nat} {m : Mem} {X A W : List Nat} {vs : List Value} {k : List Tr → AM α}, HM c hd fp m w X → AVokL c hd m w.heap xs vs → Ex P (outRL τ ts xs k) u m y m' A W →
    ∃ rs m1 fp1 F A1 W1, Ex P (k rs) u m1 y m' A1 W1 ∧ HM c hd fp1 m1 w (F ++ X) ∧ OwL w.heap c.tags rs vs F ∧ Evo hd m w.heap hd m1 w.heap
  | [], [], fp, m, X, A, W, vs, k, H, hx, hE => by
    simp only [outRL] at hE
    simp only [AVokL] at hx
    subst hx
    exact ⟨[], m, fp, [], A, W, hE, H, by simp [OwL], Evo.refl _ _ _⟩
  | t :: ts, x :: xs, fp, m, X, A, W, vs, k, H, hx, hE => by
    simp only [outRL] at hE
    simp only [AVokL] at hx
    obtain ⟨v, us, rfl, h1, h2⟩ := hx
    obtain ⟨r, m1, fp1, F1, A1, W1, e1, e2, e3, e5⟩ := outR_ok H h1 hE
    obtain ⟨rs, m2, fp2, F2, A2, W2, q1, q2, q3, q5⟩ := outRL_ok ts xs e2 (AVokL.evo e5 xs h2) e1
    refine ⟨r :: rs, m2, fp2, F1 ++ F2, A2, W2, q1, q2.pocket ?_, ?_, e5.trans q5⟩
    · rw [← List.append_assoc]; exact List.perm_append_comm.append_right X
    · simp only [OwL]; exact ⟨v, us, F1, F2, rfl, e3, q3, rfl⟩
  | [], x :: xs, fp, m, X, A, W, vs, k, H, hx, hE => by simp only [outRL, Ex] at hE
  | t :: ts, [], fp, m, X, A, W, vs, k, H, hx, hE => by simp only [outRL, Ex] at hE

def tupOf (vs : List Value) : Value :=
  match vs with
  | [v] => v
  | vs => .tuple vs.toArray
theorem outRes_ok {ts : List Nat} {xs : List AV} {vs : List Value} {k : Tr → AM α} (H : HM c hd fp m w X) (hx : AVokL c hd m w.heap xs vs) (hE : Ex P (outRes τ ts xs k) u m y m' A W) :
    ∃ r m1 fp1 F A1 W1, Ex P (k r) u m1 y m' A1 W1 ∧ HM c hd fp1 m1 w (F ++ X) ∧ Ow w.heap c.tags r (tupOf vs) F ∧ Evo hd m w.heap hd m1 w.heap := by
  unfold outRes at hE
  split at hE
  · simp only [AVokL] at hx
    obtain ⟨v, us, rfl, h1, rfl⟩ := hx
    exact outR_ok H h1 hE
  · rename_i hno
    obtain ⟨rs, m1, fp1, F, A1, W1, q1, q2, q3, q5⟩ := outRL_ok _ _ H hx hE
    have hl := AVokL.length hx
    have e : tupOf vs = .tuple vs.toArray := by
      unfold tupOf
      split
      · match xs, ts, hl with
        | [x], [t], _ => exact (hno t x rfl rfl).elim
        | [x], [], _ => simp only [outRL, Ex] at hE
        | [x], _ :: _ :: _, _ => 
          simp only [outRL] at hE
          simp only [AVokL] at hx
          obtain ⟨v, us, e, h1, rfl⟩ := hx
          obtain ⟨r, m1, fp1, F1, A1, W1, e1, e2, e3, e5⟩ := outR_ok H h1 hE
          simp only [Ex] at e1
      · rfl
    exact ⟨_, m1, fp1, F, A1, W1, q1, q2, by rw [e]; simp only [Ow]; exact ⟨_, rfl, q3⟩, q5⟩

theorem outG1_ok {x : AV} {v : Value} {k : PB → AM α} (H : HM c hd fp m w X) (hx : AVok c hd m w.heap x v) (hE : Ex P (outG1 x k) u m y m' A W) :
    ∃ p m1 fp1 F A1 W1, Ex P (k p) u m1 y m' A1 W1 ∧ HM c hd fp1 m1 w (F ++ X) ∧ PBok w.heap c.tags p v F ∧ Evo hd m w.heap hd m1 w.heap := by
  unfold outG1 at hE
  split at hE
  · rename_i nm g
    simp only [Ex] at hE
    obtain ⟨B, rfl, hE⟩ := hE
    split at hE
    · rename_i g' vv sz n cs hm
      split at hE
      · rename_i hg
        subst hg
        simp only [Ex] at hE
        obtain ⟨B2, V, _, _, hE⟩ := hE
        have hv := own_eq hx hm
        subst hv
        have hb := H.blk nm _ hm
        obtain ⟨h1, h2⟩ := H.out hm (g := g') rfl
        exact ⟨_, _, _, fp nm, _, _, hE, h1, by simp only [PBok]; exact ⟨rfl, hb⟩, h2⟩
      · exact ⟨_, m, fp, [], _, _, hE, H, by simp [PBok], Evo.refl _ _ _⟩
    · exact ⟨_, m, fp, [], _, _, hE, H, by simp [PBok], Evo.refl _ _ _⟩
  · exact ⟨_, m, fp, [], _, _, hE, H, by simp [PBok], Evo.refl _ _ _⟩
theorem outGL_ok {P : Program} {c : Ctx} {hd : Nat → Value} {w : World} {α : Type} {y : α} {u : Nat → Bool} {m' : Mem} : ∀ (xs : List AV) {fp : Nat → List Nat} {m : Mem} {X A W : List Nat} {vs : List Value} {k : List PB → AM α}, HM c hd fp m w X → AVokL c hd m w.heap xs vs → Ex P (outGL xs k) u m y m' A W →
    ∃ ps m1 fp1 F A1 W1, Ex P (k ps) u m1 y m' A1 W1 ∧ HM c hd fp1 m1 w (F ++ X) ∧ PBokL w.heap c.tags ps vs F ∧ Evo hd m w.heap hd m1 w.heap
  | [], fp, m, X, A, W, vs, k, H, hx, hE => by
    simp only [outGL] at hE
    simp only [AVokL] at hx
    subst hx
    exact ⟨[], m, fp, [], A, W, hE, H, by simp [PBokL], Evo.refl _ _ _⟩
  | x :: xs, fp, m, X, A, W, vs, k, H, hx, hE => by
    simp only [outGL] at hE
    simp only [AVokL] at hx
    obtain ⟨v, us, rfl, h1, h2⟩ := hx
    obtain ⟨r, m1, fp1, F1, A1, W1, e1, e2, e3, e5⟩ := outG1_ok H h1 hE
    obtain ⟨rs, m2, fp2, F2, A2, W2, q1, q2, q3, q5⟩ := outGL_ok xs e2 (AVokL.evo e5 xs h2) e1
    refine ⟨r :: rs, m2, fp2, F1 ++ F2, A2, W2, q1, q2.pocket ?_, ?_, e5.trans q5⟩
    · rw [← List.append_assoc]; exact List.perm_append_comm.append_right X
    · simp only [PBokL]; exact ⟨v, us, F1, F2, rfl, e3, q3, rfl⟩
theorem outG_ok {x : AV} {v : Value} {k : PB → AM α} (H : HM c hd fp m w X) (hx : AVok c hd m w.heap x v) (hE : Ex P (outG τ x k) u m y m' A W) :
    ∃ p m1 fp1 F A1 W1, Ex P (k p) u m1 y m' A1 W1 ∧ HM c hd fp1 m1 w (F ++ X) ∧ PBok w.heap c.tags p v F ∧ Evo hd m w.heap hd m1 w.heap := by
  unfold outG at hE
  split at hE
  · rename_i nm g
    obtain ⟨t', cs, B, rfl, hm, hE⟩ := getBox_ok hE
    split at hE
    · simp only [Ex] at hE
      obtain ⟨B2, V, _, _, hE⟩ := hE
      have hb := H.blk nm _ hm
      simp only [BlkOk] at hb
      obtain ⟨b, cur, e0, fr, h1, h2, h3, h4, h5, h6⟩ := hb
      obtain ⟨k1, k2⟩ := H.out hm (g := g) rfl
      obtain ⟨ts, m1, fp1, F, A1, W1, q1, q2, q3, q4, q5, q6⟩ := toTL_ok _ _ k1 (AVokL.evo k2 cs h4) hE
      rw [h6] at q2
      refine ⟨_, m1, fp1, b :: F, A1, W1, q1, q2.pocket ?_, ?_, k2.trans q5⟩
      · rw [List.cons_append]
        exact (List.perm_middle (l₁ := F) (l₂ := X) (a := b)).symm
      · simp only [AVok] at hx
        obtain ⟨b2, hb2, hg2, hk2⟩ := hx.2
        rw [hm] at hb2; injection hb2 with hb2; subst hb2
        obtain ⟨_, b3, r1, r2⟩ := hk2 rfl
        rw [h1] at r1; injection r1 with r1; injection r1 with r1; injection r1 with r1
        simp only [PBok]
        exact ⟨b, cur, e0, fr, F, by rw [r2, r1], h2, h3, q4, q3, rfl⟩
    · simp only [Ex] at hE
  · simp only [Ex] at hE
  · simp only [AVok] at hx
    obtain ⟨vs, rfl, h2, _⟩ := hx
    obtain ⟨ps, m1, fp1, F, A1, W1, q1, q2, q3, q5⟩ := outGL_ok _ H h2 hE
    exact ⟨_, m1, fp1, F, A1, W1, q1, q2, by simp only [PBok]; exact ⟨vs, rfl, q3⟩, q5⟩
  · exact outG1_ok H hx hE
theorem outGs_ok {P : Program} {c : Ctx} {hd : Nat → Value} {w : World} {τ : TTab} {α : Type} {y : α} {u : Nat → Bool} {m' : Mem} : ∀ (xs : List AV) {fp : Nat → List Nat} {m : Mem} {X A W : List Nat} {vs : List Value} {k : List PB → AM α}, HM c hd fp m w X → AVokL c hd m w.heap xs vs → Ex P (outGs τ xs k) u m y m' A W →
    ∃ ps m1 fp1 F A1 W1, Ex P (k ps) u m1 y m' A1 W1 ∧ HM c hd fp1 m1 w (F ++ X) ∧ PBokL w.heap c.tags ps vs F ∧ Evo hd m w.heap hd m1 w.heap
  | [], fp, m, X, A, W, vs, k, H, hx, hE => by
    simp only [outGs] at hE
    simp only [AVokL] at hx
    subst hx
    exact ⟨[], m, fp, [], A, W, hE, H, by simp [PBokL], Evo.refl _ _ _⟩
  | x :: xs, fp, m, X, A, W, vs, k, H, hx, hE => by
    simp only [outGs] at hE
    simp only [AVokL] at hx
    obtain ⟨v, us, rfl, h1, h2⟩ := hx
    obtain ⟨r, m1, fp1, F1, A1, W1, e1, e2, e3, e5⟩ := outG_ok H h1 hE
    obtain ⟨rs, m2, fp2, F2, A2, W2, q1, q2, q3, q5⟩ := outGs_ok xs e2 (AVokL.evo e5 xs h2) e1
    refine ⟨r :: rs, m2, fp2, F1 ++ F2, A2, W2, q1, q2.pocket ?_, ?_, e5.trans q5⟩
    · rw [← List.append_assoc]; exact List.perm_append_comm.append_right X
    · simp only [PBokL]; exact ⟨v, us, F1, F2, rfl, e3, q3, rfl⟩

/-! ### a function's head -/
mutual
theorem Ow.anyTag {h : Heap} {T : List Value} : ∀ (t : Tr) {v F}, Ow h [] t v F → Ow h T t v F
  | .int .., v, F, H | .bool _, v, F, H | .str _, v, F, H | .hole, v, F, H => by simpa only [Ow] using H
  | .tag k, v, F, H => by simp only [Ow] at H; simp at H
  | .row sz n cs, v, F, H => by
    simp only [Ow] at H ⊢
    refine ⟨H.1, H.2.imp id ?_⟩
    rintro ⟨g, cap, cur, e, fr, G, h1, h2, h3, h4, h5, h6, h7, rfl⟩
    exact ⟨g, cap, cur, e, fr, G, h1, h2, h3, h4, h5, h6, OwL.anyTag cs h7, rfl⟩
  | .box t cs, v, F, H => by
    simp only [Ow] at H ⊢
    obtain ⟨g, cur, e, fr, G, h1, h2, h3, h4, h5, rfl⟩ := H
    exact ⟨g, cur, e, fr, G, h1, h2, h3, h4, OwL.anyTag cs h5, rfl⟩
  | .agg cs, v, F, H => by
    simp only [Ow] at H ⊢
    obtain ⟨vs, h1, h2⟩ := H
    exact ⟨vs, h1, OwL.anyTag cs h2⟩
  | .tup cs, v, F, H => by
    simp only [Ow] at H ⊢
    obtain ⟨vs, h1, h2⟩ := H
    exact ⟨vs, h1, OwL.anyTag cs h2⟩
theorem OwL.anyTag {h : Heap} {T : List Value} : ∀ (ts : List Tr) {vs F}, OwL h [] ts vs F → OwL h T ts vs F
  | [], vs, F, H => by simpa only [OwL] using H
  | t :: ts, vs, F, H => by
    simp only [OwL] at H ⊢
    obtain ⟨v, us, F1, F2, rfl, h1, h2, rfl⟩ := H
    exact ⟨v, us, F1, F2, rfl, Ow.anyTag t h1, OwL.anyTag ts h2, rfl⟩
end
def Fresh (m : Mem) (j : Nat) : Prop := ∀ i, j ≤ i → m i = none
mutual
theorem entA_ok {c : Ctx} : ∀ (p : PA) {hd : Nat → Value} {fp : Nat → List Nat} {m : Mem} {X : List Nat} {j tg : Nat} {v : Value} {F : List Nat} {T T0 T1 : List Value}, PAok c.w0.heap c.safe p v F T → HM c hd fp m c.w0 (F ++ X) → c.tags = T0 ++ T ++ T1 → T0.length = tg → Fresh m j → ∀ {x m1 j1 tg1}, entA j tg m p = (x, m1, j1, tg1) →
    ∃ hd' fp', HM c hd' fp' m1 c.w0 X ∧ AVok c hd' m1 c.w0.heap x v ∧ Evo hd m c.w0.heap hd' m1 c.w0.heap ∧ Fresh m1 j1 ∧ j ≤ j1 ∧ tg1 = tg + T.length ∧ (∀ i, i < j → m1 i = m i)
  | .ro t, hd, fp, m, X, j, tg, v, F, T, T0, T1, hp, H, ht, hl, hf, x, m1, j1, tg1, he => by
    simp only [PAok] at hp
    obtain ⟨h1, rfl, h3⟩ := hp
    cases t with
    | row sz n cs =>
      simp only [entA, Prod.mk.injEq] at he
      obtain ⟨rfl, rfl, rfl, rfl⟩ := he
      simp only [Tr.isRow, if_true] at h3
      subst h3
      refine ⟨hd, fp, H, ?_, Evo.refl _ _ _, hf, Nat.le_refl _, rfl, fun _ _ => rfl⟩
      simp only [AVok]
      refine ⟨h1, fun k hk => ?_⟩
      injection hk with hk
      subst hk
      rw [ht, ← hl]
      simp
    | _ =>
      simp only [entA, Prod.mk.injEq] at he
      obtain ⟨rfl, rfl, rfl, rfl⟩ := he
      simp only [Tr.isRow, if_false, Bool.false_eq_true] at h3
      subst h3
      refine ⟨hd, fp, H, ?_, Evo.refl _ _ _, hf, Nat.le_refl _, rfl, fun _ _ => rfl⟩
      first | (simp only [Rd] at h1; simp only [Tr.av, AVok]; exact h1) | simp [Tr.av, AVok]
  | .own t, hd, fp, m, X, j, tg, v, F, T, T0, T1, hp, H, ht, hl, hf, x, m1, j1, tg1, he => by
    simp only [PAok] at hp
    obtain ⟨h1, h2, rfl⟩ := hp
    cases t <;> simp [Tr.isRow] at h1
    rename_i sz n cs
    simp only [entA, Prod.mk.injEq] at he
    obtain ⟨rfl, rfl, rfl, rfl⟩ := he
    have h1c : v.oneCell' = true := by
      simp only [Ow] at h2
      rcases h2.2 with ⟨A, rfl, _⟩ | ⟨g, cap, cur, e, fr, G, rfl, _⟩ <;> rfl
    have hj := hf j (Nat.le_refl _)
    have hnd := (List.nodup_append.1 H.xnd).1
    have hpl : Ow c.w0.heap c.tags (.row sz n cs) v F := Ow.anyTag _ h2
    have st := HM.step (w := c.w0) (w' := c.w0) (Y := F) (X := X) H j (blk := .row 0 0 sz n cs) (v := v) (F := F) (Y' := []) rfl rfl rfl (Nat.le_refl _) (fun _ _ _ _ => rfl) (by simpa using hnd)
      (fun k hk => .inr (.inl (by simpa using hk))) (fun k hk => by cases hk) (fun b0 h0 => by rw [hj] at h0; cases h0)
      (fun E => by simp only [BlkOk, upd_same]; exact hpl)
    refine ⟨_, _, by simpa using st.1, own_new h1c, st.2, fun i hi => ?_, Nat.le_succ _, rfl, fun i hi => upd_ne _ _ (by omega)⟩
    rw [upd_ne _ _ (by omega)]
    exact hf i (by omega)
  | .box t cs, hd, fp, m, X, j, tg, v, F, T, T0, T1, hp, H, ht, hl, hf, x, m1, j1, tg1, he => by
    simp only [PAok] at hp
    obtain ⟨g, cur, e, fr, G, rfl, h2, h3, h4, h5, rfl⟩ := hp
    cases hr : entL (j + 1) tg m cs with
    | mk xs r =>
      obtain ⟨m2, j2, tg2⟩ := r
      simp only [entA, hr, Prod.mk.injEq] at he
      obtain ⟨rfl, rfl, rfl, rfl⟩ := he
      obtain ⟨hd2, fp2, q1, q2, q3, q4, q5, q6, q7⟩ := entL_ok cs (X := g :: X) h4 (H.pocket (by rw [List.cons_append]; exact List.perm_middle)) ht hl (fun i hi => hf i (by omega)) hr
      have hj : m2 j = none := (q7 j (by omega)).trans (hf j (Nat.le_refl _))
      have st := HM.step (w := c.w0) (w' := c.w0) (Y := [g]) (X := X) (by simpa using q1) j (blk := .box 0 t xs) (v := .pointer (some ⟨g, 0, none⟩)) (F := [g]) (Y' := []) rfl rfl rfl (Nat.le_refl _) (fun _ _ _ _ => rfl) (by simp)
        (fun k hk => .inr (.inl (by simpa using hk))) (fun k hk => by cases hk) (fun b0 h0 => by rw [hj] at h0; cases h0)
        (fun E => by
          simp only [BlkOk, upd_same]
          exact ⟨g, cur, e, fr, rfl, h2, h3, AVokL.evo E xs q2, h5, rfl⟩)
      refine ⟨_, _, by simpa using st.1, ptr_new, q3.trans st.2, fun i hi => ?_, by omega, q6, fun i hi => ?_⟩
      · rw [upd_ne _ _ (by omega)]; exact q4 i hi
      · rw [upd_ne _ _ (by omega)]; exact q7 i (by omega)
  | .agg cs, hd, fp, m, X, j, tg, v, F, T, T0, T1, hp, H, ht, hl, hf, x, m1, j1, tg1, he => by
    simp only [PAok] at hp
    obtain ⟨vs, rfl, h4, h5⟩ := hp
    cases hr : entL j tg m cs with
    | mk xs r =>
      obtain ⟨m2, j2, tg2⟩ := r
      simp only [entA, hr, Prod.mk.injEq] at he
      obtain ⟨rfl, rfl, rfl, rfl⟩ := he
      obtain ⟨hd2, fp2, q1, q2, q3, q4, q5, q6, q7⟩ := entL_ok cs h4 H ht hl hf hr
      exact ⟨hd2, fp2, q1, by simp only [AVok]; exact ⟨vs, rfl, q2, h5⟩, q3, q4, q5, q6, q7⟩
  | .fn f, hd, fp, m, X, j, tg, v, F, T, T0, T1, hp, H, ht, hl, hf, x, m1, j1, tg1, he => by
    simp only [PAok] at hp
    obtain ⟨h1, rfl, rfl⟩ := hp
    simp only [entA, Prod.mk.injEq] at he
    obtain ⟨rfl, rfl, rfl, rfl⟩ := he
    exact ⟨hd, fp, H, by simp only [AVok]; exact h1, Evo.refl _ _ _, hf, Nat.le_refl _, rfl, fun _ _ => rfl⟩
  | .nils, hd, fp, m, X, j, tg, v, F, T, T0, T1, hp, H, ht, hl, hf, x, m1, j1, tg1, he => by
    simp only [PAok] at hp
    obtain ⟨h1, rfl, rfl⟩ := hp
    simp only [entA, Prod.mk.injEq] at he
    obtain ⟨rfl, rfl, rfl, rfl⟩ := he
    exact ⟨hd, fp, H, by simp only [AVok]; exact h1, Evo.refl _ _ _, hf, Nat.le_refl _, rfl, fun _ _ => rfl⟩
theorem entL_ok {c : Ctx} : ∀ (ps : List PA) {hd : Nat → Value} {fp : Nat → List Nat} {m : Mem} {X : List Nat} {j tg : Nat} {vs : List Value} {F : List Nat} {T T0 T1 : List Value}, PAokL c.w0.heap c.safe ps vs F T → HM c hd fp m c.w0 (F ++ X) → c.tags = T0 ++ T ++ T1 → T0.length = tg → Fresh m j → ∀ {xs m1 j1 tg1}, entL j tg m ps = (xs, m1, j1, tg1) →
    ∃ hd' fp', HM c hd' fp' m1 c.w0 X ∧ AVokL c hd' m1 c.w0.heap xs vs ∧ Evo hd m c.w0.heap hd' m1 c.w0.heap ∧ Fresh m1 j1 ∧ j ≤ j1 ∧ tg1 = tg + T.length ∧ (∀ i, i < j → m1 i = m i)
  | [], hd, fp, m, X, j, tg, vs, F, T, T0, T1, hp, H, ht, hl, hf, xs, m1, j1, tg1, he => by
    simp only [PAokL] at hp
    obtain ⟨rfl, rfl, rfl⟩ := hp
    simp only [entL, Prod.mk.injEq] at he
    obtain ⟨rfl, rfl, rfl, rfl⟩ := he
    exact ⟨hd, fp, H, by simp [AVokL], Evo.refl _ _ _, hf, Nat.le_refl _, rfl, fun _ _ => rfl⟩
  | p :: ps, hd, fp, m, X, j, tg, vs, F, T, T0, T1, hp, H, ht, hl, hf, xs, m1, j1, tg1, he => by
    simp only [PAokL] at hp
    obtain ⟨v, us, F1, F2, U1, U2, rfl, h1, h2, rfl, rfl⟩ := hp
    cases hr : entA j tg m p with
    | mk x r =>
      obtain ⟨m2, j2, tg2⟩ := r
      cases hr2 : entL j2 tg2 m2 ps with
      | mk ys r2 =>
        obtain ⟨m3, j3, tg3⟩ := r2
        simp only [entL, hr, hr2, Prod.mk.injEq] at he
        obtain ⟨rfl, rfl, rfl, rfl⟩ := he
        obtain ⟨hd2, fp2, q1, q2, q3, q4, q5, q6, q7⟩ := entA_ok p (X := F2 ++ X) (T0 := T0) (T1 := U2 ++ T1) h1 (by simpa using H) (by simpa using ht) hl hf hr
        obtain ⟨hd3, fp3, z1, z2, z3, z4, z5, z6, z7⟩ := entL_ok ps (T0 := T0 ++ U1) (T1 := T1) h2 q1 (by simpa using ht) (by simp [hl, q6]) q4 hr2
        refine ⟨hd3, fp3, z1, by simp only [AVokL]; exact ⟨v, us, rfl, AVok.evo z3 x q2, z2⟩, q3.trans z3, z4, Nat.le_trans q5 z5, by simp [z6, q6]; omega, fun i hi => (z7 i (by omega)).trans (q7 i hi)⟩
end

mutual
theorem PAok.lt {h : Heap} {S : Nat → Prop} : ∀ (p : PA) {v F T}, PAok h S p v F T → ∀ k, k ∈ F → k < h.size
  | .ro t, v, F, T, H => by simp only [PAok] at H; simp [H.2.1]
  | .own t, v, F, T, H => by simp only [PAok] at H; exact Ow.lt H.2.1
  | .box t cs, v, F, T, H => by
    simp only [PAok] at H
    obtain ⟨g, cur, e, fr, G, h1, h2, h3, h4, h5, rfl⟩ := H
    intro k hk
    rcases List.mem_cons.1 hk with rfl | hk
    · exact lt_of_get h2
    · exact PAokL.lt cs h4 k hk
  | .agg cs, v, F, T, H => by
    simp only [PAok] at H
    obtain ⟨vs, h1, h2, h3⟩ := H
    exact PAokL.lt cs h2
  | .fn f, v, F, T, H => by simp only [PAok] at H; simp [H.2.1]
  | .nils, v, F, T, H => by simp only [PAok] at H; simp [H.2.1]
theorem PAokL.lt {h : Heap} {S : Nat → Prop} : ∀ (ps : List PA) {vs F T}, PAokL h S ps vs F T → ∀ k, k ∈ F → k < h.size
  | [], vs, F, T, H => by simp only [PAokL] at H; simp [H.2.1]
  | p :: ps, vs, F, T, H => by
    simp only [PAokL] at H
    obtain ⟨v, us, F1, F2, T1, T2, h1, h2, h3, rfl, h5⟩ := H
    intro k hk
    rcases List.mem_append.1 hk with hk | hk
    · exact PAok.lt p h2 k hk
    · exact PAokL.lt ps h3 k hk
end
theorem PAokL.length {h : Heap} {S : Nat → Prop} : ∀ (ps : List PA) {vs F T}, PAokL h S ps vs F T → vs.length = ps.length
  | [], vs, F, T, H => by simp only [PAokL] at H; simp [H.1]
  | p :: ps, vs, F, T, H => by
    simp only [PAokL] at H
    obtain ⟨v, us, F1, F2, T1, T2, rfl, h2, h3, _⟩ := H
    simp [PAokL.length ps h3]
/-- the results, out of the temporaries -/
theorem resAs_ok {P : Program} {c : Ctx} {hd : Nat → Value} {fp : Nat → List Nat} {w : World} {τ : TTab} {α : Type} {y : α} {m' : Mem} (hτ : TTok P τ) {tm : Nat → AV} {a : Act} : ∀ (rs : List ResultVar) {m : Mem} {u : Nat → Bool} {X A W : List Nat} {k : List AV → AM α}, HM c hd fp m w X → Rel c hd m w.heap tm a → Ex P (resAs τ tm rs k) u m y m' A W →
    ∃ xs vs u' A1 W1, Ex P (k xs) u' m y m' A1 W1 ∧ AVokL c hd m w.heap xs vs ∧ (rs.mapM (fun r => match r with
      | .tmp t => pure (a.tmps.getD t undef)
      | .cell b t => do loadVar t (← asAddr (a.tmps.getD b undef)) : ResultVar → Sem Value)).run P w = .ok vs w
  | [], m, u, X, A, W, k, H, hR, hE => ⟨[], [], u, A, W, by simpa only [resAs] using hE, by simp [AVokL], by simp⟩
  | .tmp t :: r, m, u, X, A, W, k, H, hR, hE => by
    simp only [resAs] at hE
    obtain ⟨xs, vs, u', A1, W1, h1, h2, h3⟩ := resAs_ok hτ r H hR hE
    refine ⟨_, _, u', A1, W1, h1, by simp only [AVokL]; exact ⟨_, vs, rfl, hR t, h2⟩, ?_⟩
    rw [List.mapM_cons]
    simp only [pure_bind, Sem.run_bind, h3, Result.andThen_ok, Sem.run_pure]
  | .cell b t :: r, m, u, X, A, W, k, H, hR, hE => by
    simp only [resAs] at hE
    obtain ⟨v, m1, A1, W1, u1, A2, W2, h1, h2⟩ := Ex.bind _ hE
    obtain ⟨rfl, vv, h3, h4⟩ := load_ok hτ H (hR b) h1
    obtain ⟨xs, vs, u', A3, W3, q1, q2, q3⟩ := resAs_ok hτ r H hR h2
    refine ⟨_, _, u', A3, W3, q1, by simp only [AVokL]; exact ⟨vv, vs, rfl, h4, q2⟩, ?_⟩
    have hptr : ∃ ad, a.tmps.getD b undef = .pointer (some ad) := by
      have hx := hR b
      unfold loadA at h1
      split at h1
      · simp only [Ex] at h1
      · split at h1
        · rename_i he; rw [he] at hx; simp only [AVok] at hx; exact hx.1
        · rename_i he; rw [he] at hx; simp only [AVok] at hx; obtain ⟨ad, _, e, _⟩ := hx; exact ⟨ad, e⟩
        · simp only [Ex] at h1
    obtain ⟨ad, had⟩ := hptr
    rw [List.mapM_cons]
    dsimp only
    rw [had] at h3 ⊢
    have e1 : (asAddr (.pointer (some ad))).run P w = .ok ad w := rfl
    have e2 : (loadVar t ad).run P w = .ok vv w := by
      have : (Instr.loadAt t (.pointer (some ad))).run P w = (loadVar t ad).run P w := by simp [Instr.loadAt, Instr.sureAddr, Sem.run_bind]
      rw [← this]; exact h3
    simp only [Sem.run_bind, e1, Result.andThen_ok, e2, q3, Sem.run_pure]

/-- THE CONTRACT OF A FUNCTION, from what is shown of its body -/
theorem agood {E : Env} (hE : EnvOk E) {f : Nat} {fn : Func} {body : Code} {pas : List PA} {res : Tr} {pbs : List PB} (hf : E.P.funcs[f]? = some fn) (hname : (fn.name == "runtime.NumGoroutine") = false) (hb : fn.body = some body)
    (hN : (dstOk fn.ntmps body && decide (pas.length ≤ fn.ntmps)) = true) (hr : res.okR) (hp : PB.okRL pbs) (hw : aw E body (finQ E fn.resultTypes.toList fn.results.toList res pbs) (start pas)) : AGood E.P f pas res pbs := by
  refine ⟨hr, hp, fun w vals F T hpa hnd ht => ?_⟩
  simp only [Bool.and_eq_true, decide_eq_true_eq] at hN
  obtain ⟨hN, hlen⟩ := hN
  have henter : (callFunc f vals.toArray).run E.P w = .ok (.enter f vals.toArray) w := by
    have hname' : ¬ fn.name = "runtime.NumGoroutine" := by simpa using hname
    simp [callFunc, hf, hname', hb]
  unfold CallF
  rw [henter]
  simp only
  have hvl := PAokL.length _ hpa
  let c : Ctx := ⟨w, F, T⟩
  have H0 : HM c (fun _ => undef) (fun _ => []) (fun _ => none) w (F ++ []) :=
    { blk := fun nm b h => by cases h
      non := fun _ _ => rfl
      nd := fun _ => List.nodup_nil
      dj := fun _ _ _ k hk => by cases hk
      xnd := by simpa using hnd
      xd := fun _ k hk => by cases hk
      reg := fun _ k hk => by cases hk
      xreg := fun k hk => by rw [List.append_nil] at hk; exact ⟨.inl hk, PAokL.lt _ hpa k hk⟩
      os := rfl
      tape := rfl
      output := rfl
      size := Nat.le_refl _
      same := fun _ _ => rfl
      tg1 := ht }
  cases hr0 : entL 0 0 (fun _ => none) pas with
  | mk xs r =>
    obtain ⟨m1, j1, tg1⟩ := r
    obtain ⟨hd1, fp1, q1, q2, q3, _⟩ := entL_ok (c := c) pas (T0 := []) (T1 := []) hpa H0 (by simp [c]) rfl (fun _ _ => rfl) hr0
    have hst : start pas = ⟨fun t => xs.getD t .any, m1, xs⟩ := by unfold start startOf; rw [hr0]
    have hxl := AVokL.length q2
    have hsz : (vals.toArray ++ Array.replicate (fn.ntmps - vals.toArray.size) undef).size = fn.ntmps := by simp; omega
    have HS : Holds c vals fn.ntmps (start pas) { tmps := vals.toArray ++ Array.replicate (fn.ntmps - vals.toArray.size) undef, defers := [] } w := by
      rw [hst]
      refine ⟨hd1, fp1, q1, fun t => ?_, q2, rfl, hsz⟩
      show AVok c hd1 m1 w.heap (xs.getD t .any) _
      rw [List.getD_eq_getElem?_getD]
      cases hx : xs[t]? with
      | none => simp [AVok]
      | some x =>
        obtain ⟨v, hv, hxv⟩ := AVokL.get q2 hx
        have hlt : t < vals.length := (List.getElem?_eq_some_iff.1 hv).1
        rw [Array.getD_eq_getD_getElem?, Array.getElem?_append_left (by simpa using hlt)]
        simp only [List.getElem?_toArray, hv, Option.getD_some]
        exact hxv
    refine calls_of_wp hf hb (wp_mono (aw_ok hE body hw hN HS) fun e a w' hq => ?_)
    obtain ⟨s, hfin, hd, fp, h1, h2, h3, h4, h5⟩ := hq
    have fin : wpo E.P (AM.outAll E.τ fn.resultTypes.toList fn.results.toList s.tm s.gs) s.mem (fun r _ => r = (res, pbs)) → a.defers = [] ∧ ∃ v, (results fn a.tmps).run E.P w' = .ok v w' ∧ CallR w vals F T res pbs (.returned v) w' := by
      intro hwp
      obtain ⟨r, m', A, W, e, rfl⟩ := wpo_ex hwp (fun _ => true)
      unfold AM.outAll at e
      obtain ⟨xs', vs', u', A0, W0, e, ex, er⟩ := resAs_ok hE.τ _ h1 h2 e
      refine ⟨h4, tupOf vs', ?_, ?_⟩
      · unfold results
        have : fn.results = fn.results.toList.toArray := by simp
        rw [this, List.mapM_toArray]
        have er' := er
        simp only [map_eq_pure_bind, bind_assoc, pure_bind, Sem.run_bind]
        erw [er']
        simp only [Result.andThen_ok, Sem.run_pure]
        unfold tupOf
        match vs' with
        | [] => rfl
        | [v] => rfl
        | _ :: _ :: _ => simp
      obtain ⟨r1, m2, fp2, F1, A1, W1, e1, k1, k2, k3⟩ := outRes_ok h1 ex e
      obtain ⟨ps, m3, fp3, F2, A2, W2, e2, k4, k5, k6⟩ := outGs_ok _ k1 (AVokL.evo k3 _ h3) e1
      simp only [Ex, Prod.mk.injEq] at e2
      obtain ⟨⟨rfl, rfl⟩, _⟩ := e2
      have k4' : HM c hd fp3 m3 w' (F1 ++ F2) := k4.pocket (by simpa using List.perm_append_comm)
      refine ⟨_, F1, F2, rfl, k2, k5, k4'.xnd, ⟨k4'.os, k4'.tape, k4'.output, k4'.size, fun k hk hkf => k4'.same k ⟨hkf, hk⟩, fun k hk => (k4'.xreg k hk).1⟩⟩
    cases e with
    | normal => exact fin hfin
    | ret => exact fin hfin
    | exit _ => exact hfin.elim
    | goto _ => exact hfin.elim
    | panic _ => exact hfin.elim
    | outgrown => exact hfin.elim
end
end Go.AM
/- AN ABSTRACT MACHINE, 21: one state as another (at a loop's head, where ways meet): names and counts anew, what isn't needed forgotten; rules to walk by. No condition of its own. -/
namespace Go.AM
open Go AM

def tbl : List (Nat × AV) → Nat → AV
  | [], _ => .any
  | (k, x) :: r, t => if t = k then x else tbl r t
def mbl : List (Nat × Blk) → Mem
  | [], _ => none
  | (k, b) :: r, t => if t = k then some b else mbl r t
/-- whence a name is -/
def lkp : List (Nat × Nat) → Nat → Option Nat
  | [], _ => none
  | (k, x) :: r, t => if t = k then some x else lkp r t
def genB (b : Option Blk) (g : Nat) : Bool :=
  match b with
  | some b => b.gen == g
  | none => false
def deadB (b : Option Blk) (g : Nat) : Bool :=
  match b with
  | some b => decide (g < b.gen)
  | none => false
/-- the same handle: from nm, g to nm', g' -/
def linkB (S : List (Nat × Nat)) (m m' : Mem) (nm g nm' g' : Nat) : Bool := (lkp S nm' == some nm) && genB (m nm) g && genB (m' nm') g'
mutual
def leA (S : List (Nat × Nat)) (m m' : Mem) : AV → AV → Prop
  | x, .any => True
  | .int k n, .int k' n' => k = k' ∧ n = n'
  | .bool b, .bool b' => b = b'
  | .str s, .str s' => s = s'
  | .agg cs, .agg cs' => leAL S m m' cs cs'
  | .tup cs, .tup cs' => leAL S m m' cs cs'
  | .nils, .nils => True
  | .nils, .ro tg sz n cs => tg = none ∧ n = 0 ∧ cs = []
  | .ro tg sz n cs, .ro tg' sz' n' cs' => (tg' = none ∨ tg' = tg) ∧ sz = sz' ∧ n = n' ∧ cs = cs'
  | .own nm g, .own nm' g' => (linkB S m m' nm g nm' g' || deadB (m' nm') g') = true
  | .cut nm g off n, .cut nm' g' off' n' => linkB S m m' nm g nm' g' = true ∧ off = off' ∧ n = n'
  | .ptr nm g i off, .ptr nm' g' i' off' => linkB S m m' nm g nm' g' = true ∧ i = i' ∧ off = off'
  | .rptr cs, .rptr cs' => cs = cs'
  | .fn f, .fn f' => f = f'
  | _, _ => False
def leAL (S : List (Nat × Nat)) (m m' : Mem) : List AV → List AV → Prop
  | [], [] => True
  | x :: xs, y :: ys => leA S m m' x y ∧ leAL S m m' xs ys
  | _, _ => False
end
def leB (S : List (Nat × Nat)) (m m' : Mem) (nm' : Nat) (b' : Blk) : Prop :=
  match b' with
  | .gone _ => True
  | .row g' v' sz' n' cs' => match (lkp S nm').bind m with
    | some (.row g v sz n cs) => sz = sz' ∧ n = n' ∧ cs = cs'
    | _ => False
  | .box g' t' cs' => match (lkp S nm').bind m with
    | some (.box g t cs) => t = t' ∧ leAL S m m' cs cs'
    | _ => False
  | _ => False
def leTs (S : List (Nat × Nat)) (m m' : Mem) (tm : Nat → AV) : List (Nat × AV) → Prop
  | [] => True
  | (t, x) :: r => leA S m m' (tm t) x ∧ leTs S m m' tm r
def leMs (S : List (Nat × Nat)) (m m' : Mem) : List (Nat × Blk) → Prop
  | [] => True
  | (nm, b) :: r => leB S m m' nm b ∧ leMs S m m' r
def nodupB : List Nat → Bool
  | [] => true
  | x :: xs => !xs.contains x && nodupB xs
def leC (S : List (Nat × Nat)) (s : AState) (T : List (Nat × AV)) (M : List (Nat × Blk)) (G : List AV) : Prop :=
  nodupB (S.map (·.2)) = true ∧ leTs S s.mem (mbl M) s.tm T ∧ leMs S s.mem (mbl M) M ∧ leAL S s.mem (mbl M) s.gs G

theorem lkp_mem {x : Nat} : ∀ {S : List (Nat × Nat)} {k : Nat}, lkp S k = some x → (k, x) ∈ S
  | (k0, x0) :: r, k, h => by
    unfold lkp at h
    split at h
    · subst_vars; simp at h; simp [h]
    · exact List.mem_cons_of_mem _ (lkp_mem h)
theorem mbl_mem {x : Blk} : ∀ {S : List (Nat × Blk)} {k : Nat}, mbl S k = some x → (k, x) ∈ S
  | (k0, x0) :: r, k, h => by
    unfold mbl at h
    split at h
    · subst_vars; simp at h; simp [h]
    · exact List.mem_cons_of_mem _ (mbl_mem h)
theorem lkp_inj : ∀ {S : List (Nat × Nat)} {j k x : Nat}, nodupB (S.map (·.2)) = true → lkp S j = some x → lkp S k = some x → j = k
  | (k0, x0) :: r, j, k, x, hn, h1, h2 => by
    simp only [List.map_cons, nodupB, Bool.and_eq_true, Bool.not_eq_true'] at hn
    have no : ∀ {i}, lkp r i = some x0 → False := fun h => by
      have := lkp_mem h
      have hm : x0 ∈ r.map (·.2) := List.mem_map.2 ⟨_, this, rfl⟩
      have := hn.1
      simp at this
      obtain ⟨⟨a, b⟩, hab, e⟩ := List.mem_map.1 hm
      exact this a (by simpa [← e] using hab)
    unfold lkp at h1 h2
    split at h1
    · split at h2
      · subst_vars; rfl
      · injection h1 with h1; subst h1; exact (no h2).elim
    · split at h2
      · injection h2 with h2; subst h2; exact (no h1).elim
      · exact lkp_inj hn.2 h1 h2
theorem leTs_spec {S : List (Nat × Nat)} {m m' : Mem} {tm : Nat → AV} : ∀ {T : List (Nat × AV)}, leTs S m m' tm T → ∀ t, leA S m m' (tm t) (tbl T t)
  | [], _, t => by simp only [tbl, leA]
  | (k, x) :: r, h, t => by
    unfold tbl
    split
    · subst_vars; exact h.1
    · exact leTs_spec h.2 t
theorem leMs_spec {S : List (Nat × Nat)} {m m' : Mem} : ∀ {M : List (Nat × Blk)}, leMs S m m' M → ∀ nm b, (nm, b) ∈ M → leB S m m' nm b
  | (k, x) :: r, h, nm, b, hm => by
    rcases List.mem_cons.1 hm with e | hm
    · injection e with e1 e2; subst e1; subst e2; exact h.1
    · exact leMs_spec h.2 nm b hm

section
variable {c : Ctx} {hd hd' : Nat → Value} {m m' : Mem} {h : Heap} {S : List (Nat × Nat)}
/-- a handle goes over -/
theorem link_ok (hS : ∀ nm' b', m' nm' = some b' → leB S m m' nm' b') (hh : ∀ nm' nm, lkp S nm' = some nm → hd' nm' = hd nm) {nm g nm' g' : Nat} (hl : linkB S m m' nm g nm' g' = true) {p p' : Blk → Prop} (H : Ref m nm g p)
    (hp : ∀ b b', m nm = some b → m' nm' = some b' → hd' nm' = hd nm → leB S m m' nm' b' → lkp S nm' = some nm → p b → p' b') : Ref m' nm' g' p' := by
  unfold linkB at hl
  simp only [Bool.and_eq_true, beq_iff_eq] at hl
  obtain ⟨⟨l1, l2⟩, l3⟩ := hl
  cases hb' : m' nm' with
  | none => rw [hb'] at l3; simp [genB] at l3
  | some b' =>
    rw [hb'] at l3
    simp only [genB, beq_iff_eq] at l3
    obtain ⟨b, hb, hg, hk⟩ := H
    rw [hb] at l2
    simp only [genB, beq_iff_eq] at l2
    exact ⟨b', hb', Nat.le_of_eq l3.symm, fun _ => hp b b' hb hb' (hh _ _ l1) (hS _ _ hb') l1 (hk l2.symm)⟩
theorem leB_row {nm' nm g' v' sz' n' : Nat} {cs' : List Tr} (hB : leB S m m' nm' (.row g' v' sz' n' cs')) (l : lkp S nm' = some nm) : ∃ g v, m nm = some (.row g v sz' n' cs') := by
  simp only [leB, l, Option.bind_some] at hB
  split at hB
  · rename_i g v sz n cs hm
    obtain ⟨rfl, rfl, rfl⟩ := hB
    exact ⟨g, v, hm⟩
  · exact hB.elim
theorem leB_box {nm' nm g' t' : Nat} {cs' : List AV} (hB : leB S m m' nm' (.box g' t' cs')) (l : lkp S nm' = some nm) : ∃ g cs, m nm = some (.box g t' cs) ∧ leAL S m m' cs cs' := by
  simp only [leB, l, Option.bind_some] at hB
  split at hB
  · rename_i g t cs hm
    obtain ⟨rfl, h2⟩ := hB
    exact ⟨g, cs, hm, h2⟩
  · exact hB.elim
mutual
theorem leA_ok (hS : ∀ nm' b', m' nm' = some b' → leB S m m' nm' b') (hh : ∀ nm' nm, lkp S nm' = some nm → hd' nm' = hd nm) : ∀ (x y : AV) {v : Value}, leA S m m' x y → AVok c hd m h x v → AVok c hd' m' h y v
  | x, .any, v, _, _ => by simp only [AVok]
  | .int k n, .int k' n', v, hl, H => by simp only [leA] at hl; obtain ⟨rfl, rfl⟩ := hl; simpa only [AVok] using H
  | .bool b, .bool b', v, hl, H => by simp only [leA] at hl; subst hl; simpa only [AVok] using H
  | .str b, .str b', v, hl, H => by simp only [leA] at hl; subst hl; simpa only [AVok] using H
  | .agg cs, .agg cs', v, hl, H => by
    simp only [leA] at hl
    simp only [AVok] at H ⊢
    obtain ⟨vs, h1, h2, h3⟩ := H
    exact ⟨vs, h1, leAL_ok hS hh cs cs' hl h2, h3⟩
  | .tup cs, .tup cs', v, hl, H => by
    simp only [leA] at hl
    simp only [AVok] at H ⊢
    obtain ⟨vs, h1, h2⟩ := H
    exact ⟨vs, h1, leAL_ok hS hh cs cs' hl h2⟩
  | .nils, .nils, v, hl, H => by simpa only [AVok] using H
  | .nils, .ro tg sz n cs, v, hl, H => by
    simp only [leA] at hl
    obtain ⟨rfl, rfl, rfl⟩ := hl
    simp only [AVok] at H ⊢
    obtain ⟨A, rfl⟩ := H
    refine ⟨?_, fun k hk => by cases hk⟩
    simp only [Rd]
    exact ⟨by simp [cells1], A, 0, [], rfl, Nat.le_refl _, by unfold maxL; omega, by simp [RdL], fun hne => absurd rfl hne⟩
  | .ro tg sz n cs, .ro tg' sz' n' cs', v, hl, H => by
    simp only [leA] at hl
    obtain ⟨ht, rfl, rfl, rfl⟩ := hl
    simp only [AVok] at H ⊢
    refine ⟨H.1, fun k hk => ?_⟩
    rcases ht with rfl | rfl
    · cases hk
    · exact H.2 k hk
  | .own nm g, .own nm' g', v, hl, H => by
    simp only [leA, Bool.or_eq_true] at hl
    simp only [AVok] at H ⊢
    refine ⟨H.1, ?_⟩
    rcases hl with hl | hl
    · refine link_ok hS hh hl H.2 fun b b' hb hb' e hB l hp => ?_
      cases b' <;> simp only [ownB]
      · obtain ⟨g0, v0, hm⟩ := leB_row hB l
        rw [hb] at hm; injection hm with hm; subst hm
        rw [e]; exact hp
      · exact hB.elim
    · unfold deadB at hl
      split at hl
      · rename_i b hb
        exact ⟨b, hb, Nat.le_of_lt (of_decide_eq_true hl), fun e => by have := of_decide_eq_true hl; omega⟩
      · cases hl
  | .cut nm g off n, .cut nm' g' off' n', v, hl, H => by
    simp only [leA] at hl
    obtain ⟨hl, rfl, rfl⟩ := hl
    simp only [AVok] at H ⊢
    refine ⟨H.1, link_ok hS hh hl H.2 fun b b' hb hb' e hB l hp => ?_⟩
    cases b' <;> simp only [cutB]
    · obtain ⟨g0, v0, hm⟩ := leB_row hB l
      rw [hb] at hm; injection hm with hm; subst hm
      rw [e]; exact hp
    · exact hB.elim
  | .ptr nm g i off, .ptr nm' g' i' off', v, hl, H => by
    simp only [leA] at hl
    obtain ⟨hl, rfl, rfl⟩ := hl
    simp only [AVok] at H ⊢
    refine ⟨H.1, link_ok hS hh hl H.2 fun b b' hb hb' e hB l hp => ?_⟩
    cases b' <;> simp only [ptrB]
    · obtain ⟨g0, v0, hm⟩ := leB_row hB l
      rw [hb] at hm; injection hm with hm; subst hm
      rw [e]; exact hp
    · obtain ⟨g0, cs0, hm, _⟩ := leB_box hB l
      rw [hb] at hm; injection hm with hm; subst hm
      rw [e]; exact hp
    · exact hB.elim
    · exact hB.elim
  | .rptr cs, .rptr cs', v, hl, H => by simp only [leA] at hl; subst hl; simpa only [AVok] using H
  | .fn f, .fn f', v, hl, H => by simp only [leA] at hl; subst hl; simpa only [AVok] using H
  | .inn .., .inn .., v, hl, H => by simp only [leA] at hl
theorem leAL_ok (hS : ∀ nm' b', m' nm' = some b' → leB S m m' nm' b') (hh : ∀ nm' nm, lkp S nm' = some nm → hd' nm' = hd nm) : ∀ (xs ys : List AV) {vs : List Value}, leAL S m m' xs ys → AVokL c hd m h xs vs → AVokL c hd' m' h ys vs
  | [], [], vs, _, H => by simpa only [AVokL] using H
  | x :: xs, y :: ys, vs, hl, H => by
    simp only [leAL] at hl
    simp only [AVokL] at H ⊢
    obtain ⟨v, us, h1, h2, h3⟩ := H
    exact ⟨v, us, h1, leA_ok hS hh x y hl.1 h2, leAL_ok hS hh xs ys hl.2 h3⟩
  | [], _ :: _, vs, hl, H => by simp only [leAL] at hl
  | _ :: _, [], vs, hl, H => by simp only [leAL] at hl
end
end
/-- ONE STATE AS ANOTHER -/
theorem le_of {s : AState} {T : List (Nat × AV)} {M : List (Nat × Blk)} {G : List AV} (S : List (Nat × Nat)) (hl : leC S s T M G) : Le s ⟨tbl T, mbl M, G⟩ := by
  intro c gv N a w H
  obtain ⟨hd, fp, H, hR, hG, h4, h5⟩ := H
  obtain ⟨i1, i2, i3, i4⟩ := hl
  have hS : ∀ nm' b', mbl M nm' = some b' → leB S s.mem (mbl M) nm' b' := fun nm' b' hb => leMs_spec i3 nm' b' (mbl_mem hb)
  let hd' : Nat → Value := fun nm' => match lkp S nm' with
    | some nm => hd nm
    | none => undef
  have hh : ∀ nm' nm, lkp S nm' = some nm → hd' nm' = hd nm := fun nm' nm hl => by show (match lkp S nm' with | some nm => hd nm | none => undef) = _; rw [hl]
  let fp' : Nat → List Nat := fun nm' => match mbl M nm', lkp S nm' with
    | some (.row ..), some nm => fp nm
    | some (.box ..), some nm => fp nm
    | _, _ => []
  have hfp : ∀ nm' k, k ∈ fp' nm' → ∃ nm, lkp S nm' = some nm ∧ fp' nm' = fp nm := by
    intro nm' k hk
    have e : fp' nm' = (match mbl M nm', lkp S nm' with
      | some (.row ..), some nm => fp nm
      | some (.box ..), some nm => fp nm
      | _, _ => []) := rfl
    rw [e] at hk
    split at hk
    · rename_i h1 h2; exact ⟨_, h2, by rw [e, h1, h2]⟩
    · rename_i h1 h2; exact ⟨_, h2, by rw [e, h1, h2]⟩
    · cases hk
  refine ⟨hd', fp', ?_, fun t => leA_ok hS hh _ _ (leTs_spec i2 t) (hR t), leAL_ok hS hh _ _ i4 hG, h4, h5⟩
  refine { H with blk := ?_, non := ?_, nd := ?_, dj := ?_, xd := ?_, reg := ?_ }
  · intro nm' b' hb'
    have hb' : mbl M nm' = some b' := hb'
    have hB := hS nm' b' hb'
    cases b' with
    | row g' v' sz' n' cs' =>
      cases hl : lkp S nm' with
      | none => simp only [leB, hl, Option.bind_none] at hB
      | some nm =>
        obtain ⟨g, v, hm⟩ := leB_row hB hl
        have hk := H.blk nm _ hm
        have e : fp' nm' = fp nm := by show (match mbl M nm', lkp S nm' with | some (.row ..), some nm => fp nm | some (.box ..), some nm => fp nm | _, _ => []) = _; rw [hb', hl]
        simp only [BlkOk] at hk ⊢
        rw [hh _ _ hl, e]; exact hk
    | box g' t' cs' =>
      cases hl : lkp S nm' with
      | none => simp only [leB, hl, Option.bind_none] at hB
      | some nm =>
        obtain ⟨g, cs, hm, hcs⟩ := leB_box hB hl
        have hk := H.blk nm _ hm
        have e : fp' nm' = fp nm := by show (match mbl M nm', lkp S nm' with | some (.row ..), some nm => fp nm | some (.box ..), some nm => fp nm | _, _ => []) = _; rw [hb', hl]
        simp only [BlkOk] at hk ⊢
        rw [hh _ _ hl, e]
        obtain ⟨b, cur, e0, fr, k1, k2, k3, k4, k5, k6⟩ := hk
        exact ⟨b, cur, e0, fr, k1, k2, k3, leAL_ok hS hh _ _ hcs k4, k5, k6⟩
    | gone g' => show (match mbl M nm', lkp S nm' with | some (.row ..), some nm => fp nm | some (.box ..), some nm => fp nm | _, _ => []) = _; rw [hb']
    | lent _ _ _ _ => exact hB.elim
    | lentB _ _ => exact hB.elim
  · intro nm' hn
    have hn : mbl M nm' = none := hn
    show (match mbl M nm', lkp S nm' with | some (.row ..), some nm => fp nm | some (.box ..), some nm => fp nm | _, _ => []) = _
    rw [hn]
  · intro nm'
    cases hx : fp' nm' with
    | nil => exact List.nodup_nil
    | cons k r =>
      obtain ⟨nm, _, e⟩ := hfp nm' k (by rw [hx]; simp)
      rw [← hx, e]; exact H.nd nm
  · intro nm1 nm2 hne k hk1 hk2
    obtain ⟨a, ha, ea⟩ := hfp nm1 k hk1
    obtain ⟨b, hb, eb⟩ := hfp nm2 k hk2
    rw [ea] at hk1
    rw [eb] at hk2
    exact H.dj a b (fun e => hne (lkp_inj i1 ha (e ▸ hb))) k hk1 hk2
  · intro nm' k hk hx; cases hx
  · intro nm' k hk
    obtain ⟨a, ha, ea⟩ := hfp nm' k hk
    rw [ea] at hk
    exact H.reg a k hk

/-- a slice that is none becomes an empty one of its own: in a temporary -/
theorem Le.nilT {s : AState} (t D g sz : Nat) (ht : s.tm t = .nils) (hD : ∀ b0, s.mem D = some b0 → b0.gen < g) : Le s ⟨upd s.tm t (.own D g), upd s.mem D (some (.row g 0 sz 0 [])), s.gs⟩ := by
  intro c gv N a w H
  obtain ⟨hd, fp, H, hR, hG, h4, h5⟩ := H
  have hx := hR t
  rw [ht] at hx
  simp only [AVok] at hx
  obtain ⟨B, hB⟩ := hx
  obtain ⟨k1, k2⟩ := H.newNil D (g := g) (v := 0) (sz := sz) (B := B) hD
  refine ⟨_, _, k1, fun t' => ?_, AVokL.evo k2 _ hG, h4, h5⟩
  by_cases he : t' = t
  · subst he
    show AVok _ _ _ _ (upd s.tm t' _ t') _
    rw [upd_same, hB]; exact own_new rfl
  · show AVok _ _ _ _ (upd s.tm t _ t') _
    rw [upd_ne _ _ he]; exact AVok.evo k2 _ (hR t')
/-- in a block -/
theorem Le.nilB {s : AState} (nm j D g sz : Nat) {g0 bt : Nat} {cs : List AV} (hb : s.mem nm = some (.box g0 bt cs)) (hj : cs[j]? = some .nils) (hD : ∀ b0, s.mem D = some b0 → b0.gen < g) (hne : D ≠ nm) : Le s ⟨s.tm, upd (upd s.mem D (some (.row g 0 sz 0 []))) nm (some (.box g0 bt (cs.set j (.own D g)))), s.gs⟩ := by
  intro c gv N a w H
  obtain ⟨hd, fp, H, hR, hG, h4, h5⟩ := H
  have hk := H.blk nm _ hb
  simp only [BlkOk] at hk
  obtain ⟨b, cur, e0, fr, q1, q2, q3, q4, q5, q6⟩ := hk
  obtain ⟨v, hv, hx⟩ := AVokL.get q4 hj
  simp only [AVok] at hx
  obtain ⟨B, rfl⟩ := hx
  obtain ⟨k1, k2⟩ := H.newNil D (g := g) (v := 0) (sz := sz) (B := B) hD
  have hb1 : (upd s.mem D (some (.row g 0 sz 0 []))) nm = some (.box g0 bt cs) := by rw [upd_ne _ _ (Ne.symm hne)]; exact hb
  have hset : cur.toList.set j (.slice B 0 0) = cur.toList := by
    apply List.ext_getElem?
    intro x
    rw [List.getElem?_set]
    split
    · subst_vars
      split
      · exact hv.symm
      · rename_i hh; rw [List.getElem?_eq_none (Nat.le_of_not_lt hh)] at hv; cases hv
    · rfl
  have hfp : upd fp D [] nm = [b] := by rw [upd_ne _ _ (Ne.symm hne)]; exact q6
  have hhd : upd hd D (.slice B 0 0) nm = hd nm := upd_ne _ _ (Ne.symm hne)
  have st := HM.step (w := w) (w' := w) (Y := []) (X := []) (by simpa using k1) nm (blk := .box g0 bt (cs.set j (.own D g))) (v := hd nm) (F := [b]) (Y' := []) rfl rfl rfl (Nat.le_refl _) (fun _ _ _ _ => rfl) (by simp)
    (fun k hk => .inl (by rw [hfp]; simpa using hk)) (fun k hk => by cases hk)
    (fun b0 h0 => by rw [hb1] at h0; injection h0 with h0; subst h0; exact ⟨Nat.le_refl _, fun _ => by simp only [EvB]; exact hhd.symm⟩)
    (fun E => by
      simp only [BlkOk, upd_same]
      refine ⟨b, cur, e0, fr, q1, q2, q3, ?_, q5, rfl⟩
      have := AVokL.set j (AVokL.evo E _ (AVokL.evo k2 _ q4)) (AVok.evo E _ (own_new (hd := hd) (m := s.mem) (h := w.heap) (nm := D) (g := g) (vv := 0) (sz := sz) (n := 0) (cs := []) (c := c) (v := .slice B 0 0) rfl))
      rw [hset] at this
      exact this)
  exact ⟨_, _, st.1, Rel.evo (k2.trans st.2) hR, AVokL.evo (k2.trans st.2) _ hG, h4, h5⟩

/-! ### rules to walk by -/
section
variable {E : Env} {Q : Exit → AState → Prop} {s : AState}
theorem an {a b : Prop} (ha : a) (hb : b) : a ∧ b := ⟨ha, hb⟩
theorem sq {K : AState → Prop} (h : K s) : ∃ s', Le s s' ∧ K s' := ⟨s, Le.refl s, h⟩
theorem aw_seq {a b : Code} (h : aw E a (thenQ (fun s => ∃ s', Le s s' ∧ aw E b Q s') Q) s) : aw E (.seq a b) Q s := h
/-- where ways meet: one state for all -/
theorem aw_cut {a b : Code} {α : Type} (J : α → AState) (h2 : ∀ x, aw E b Q (J x)) (h1 : aw E a (thenQ (fun s => ∃ x, Le s (J x)) Q) s) : aw E (.seq a b) Q s :=
  aw_mono a (fun e s q => by
    cases e <;> first | exact q | skip
    obtain ⟨x, hx⟩ := q
    exact ⟨_, hx, h2 x⟩) h1
theorem aw_loop {b : Code} {α : Type} (J : α → AState) (μ : α → Nat) (x : α) (h0 : Le s (J x)) (hr : ∀ x, aw E b (thenQ (fun s => ∃ x', μ x' < μ x ∧ Le s (J x')) Q) (J x)) : aw E (.loop b) Q s := ⟨α, J, μ, x, h0, hr⟩
theorem aw_region {id : Nat} {ops : Array Oper} {r : List Oper} (hr : ops.toList = r) (h : aops E ops (Q .normal) r s) : aw E (.region id ops false) Q s := by subst hr; exact h
theorem aw_drawn {id : Nat} {ops : Array Oper} {r : List Oper} (ho : ordOk ops = true) (hr : ops.toList = r) (h : aopsD E ops (Q .normal) r s []) : aw E (.region id ops true) Q s := by subst hr; exact ⟨ho, h⟩
theorem aw_cond {c : Operand} {x y : Code} {b : Bool} (hc : evA s.tm c = .bool b) (h1 : b = true → aw E x Q s) (h2 : b = false → aw E y Q s) : aw E (.cond c x y) Q s := by
  show condW (evA s.tm c) _ _
  rw [hc]; exact ⟨h1, h2⟩
end

/-! ### a table of types -/
inductive TT where
  | leaf (t : Nat) (i : TI)
  | node (k : Nat) (l r : TT)
def TT.get : TT → TTab
  | .leaf t i, x => cond (Nat.beq x t) (some i) none
  | .node k l r, x => cond (Nat.ble x k) (l.get x) (r.get x)
def TT.All (P : Program) : TT → Prop
  | .leaf t i => TI.Ok P t i
  | .node _ l r => l.All P ∧ r.All P
theorem TT.ok {P : Program} : ∀ T : TT, T.All P → TTok P T.get
  | .leaf t i, h, x, j, hj => by
    simp only [TT.get] at hj
    cases hb : Nat.beq x t with
    | true => rw [hb] at hj; injection hj with hj; subst hj; rw [Nat.eq_of_beq_eq_true hb]; exact h
    | false => rw [hb] at hj; cases hj
  | .node k l r, h, x, j, hj => by
    simp only [TT.get] at hj
    cases hb : Nat.ble x k with
    | true => rw [hb] at hj; exact TT.ok l h.1 x j hj
    | false => rw [hb] at hj; exact TT.ok r h.2 x j hj
end Go.AM
/- AN ABSTRACT MACHINE, 22: steps: guards, choices, drawn regions. No condition of its own. -/
namespace Go.AM
open Go AM

section
variable {E : Env} {all : Array Oper} {K : AState → Prop} {tm : Nat → AV} {m0 : Mem} {gs : List AV} {r : List Oper} {d : Option Nat} {op : Op} {ty : Nat} {pos : String} {af : Array Edge} {j : Nat} {c : Bool}
theorem o_g {want : Bool} (hc : gdv all tm j = .bool c) (h1 : c = want → wpo E.P (AM.osem E.τ E.md ⟨d, op, ty, pos, af, some (j, want)⟩ (evA tm) (baseOf d)) m0 fun v m => aops E all K r ⟨putA tm d v, m, gs⟩) (h2 : c ≠ want → aops E all K r ⟨putA tm d (.tup []), m0, gs⟩) :
    aops E all K (⟨d, op, ty, pos, af, some (j, want)⟩ :: r) ⟨tm, m0, gs⟩ := by
  unfold aops
  show guardW (gdv all tm j) want _ _
  rw [hc]
  exact ⟨h1, h2⟩
theorem o_gT (hc : gdv all tm j = .bool c) (h1 : c = true → wpo E.P (AM.osem E.τ E.md ⟨d, op, ty, pos, af, some (j, true)⟩ (evA tm) (baseOf d)) m0 fun v m => aops E all K r ⟨putA tm d v, m, gs⟩) (h2 : c = false → aops E all K r ⟨putA tm d (.tup []), m0, gs⟩) :
    aops E all K (⟨d, op, ty, pos, af, some (j, true)⟩ :: r) ⟨tm, m0, gs⟩ := o_g hc h1 fun h => h2 (by simpa using h)
theorem o_gF (hc : gdv all tm j = .bool c) (h1 : c = false → wpo E.P (AM.osem E.τ E.md ⟨d, op, ty, pos, af, some (j, false)⟩ (evA tm) (baseOf d)) m0 fun v m => aops E all K r ⟨putA tm d v, m, gs⟩) (h2 : c = true → aops E all K r ⟨putA tm d (.tup []), m0, gs⟩) :
    aops E all K (⟨d, op, ty, pos, af, some (j, false)⟩ :: r) ⟨tm, m0, gs⟩ := o_g hc h1 fun h => h2 (by simpa using h)
theorem o_y {want : Bool} (hc : gdv all tm j = .bool c) (h : c = want) (h1 : wpo E.P (AM.osem E.τ E.md ⟨d, op, ty, pos, af, some (j, want)⟩ (evA tm) (baseOf d)) m0 fun v m => aops E all K r ⟨putA tm d v, m, gs⟩) :
    aops E all K (⟨d, op, ty, pos, af, some (j, want)⟩ :: r) ⟨tm, m0, gs⟩ := o_g hc (fun _ => h1) fun h' => (h' h).elim
theorem o_nU {want : Bool} (hc : gdv all tm j = .tup []) (h1 : aops E all K r ⟨putA tm d (.tup []), m0, gs⟩) :
    aops E all K (⟨d, op, ty, pos, af, some (j, want)⟩ :: r) ⟨tm, m0, gs⟩ := by
  unfold aops
  show guardW (gdv all tm j) want _ _
  rw [hc]
  exact h1
theorem o_nT (hc : gdv all tm j = .bool c) (h : c = false) (h1 : aops E all K r ⟨putA tm d (.tup []), m0, gs⟩) :
    aops E all K (⟨d, op, ty, pos, af, some (j, true)⟩ :: r) ⟨tm, m0, gs⟩ := o_g hc (fun h' => by rw [h] at h'; cases h') fun _ => h1
theorem o_nF (hc : gdv all tm j = .bool c) (h : c = true) (h1 : aops E all K r ⟨putA tm d (.tup []), m0, gs⟩) :
    aops E all K (⟨d, op, ty, pos, af, some (j, false)⟩ :: r) ⟨tm, m0, gs⟩ := o_g hc (fun h' => by rw [h] at h'; cases h') fun _ => h1
end

section
variable {P : Program} {τ : TTab} {md : Nat → List Hn} {d : Option Nat} {ty : Nat} {pos : String} {af : Array Edge} {g : Option (Nat × Bool)} {x a b : Operand} {ev : Operand → AV} {D : Nat} {m m' : Mem} {v : AV} {c : Bool}
theorem w_pT {L : AV → Mem → Prop} (hx : ev x = .bool c) (h : c = true) (hv : run1 (.ret (ev a)) m = .ok v m') (k : L v m') : wpo P (AM.osem τ md ⟨d, .pick x a b, ty, pos, af, g⟩ ev D) m L := by
  refine w_ok (v := v) (m' := m') ?_ k
  rw [← hv]
  subst h
  simp [AM.osem, AM.pickA, hx]
theorem w_pF {L : AV → Mem → Prop} (hx : ev x = .bool c) (h : c = false) (hv : run1 (.ret (ev b)) m = .ok v m') (k : L v m') : wpo P (AM.osem τ md ⟨d, .pick x a b, ty, pos, af, g⟩ ev D) m L := by
  refine w_ok (v := v) (m' := m') ?_ k
  rw [← hv]
  subst h
  simp [AM.osem, AM.pickA, hx]
end
section
variable {E : Env} {Q : Exit → AState → Prop} {s : AState} {c : Operand} {x y : Code} {b : Bool}
theorem aw_cT (hc : evA s.tm c = .bool b) (h : b = true) (k : aw E x Q s) : aw E (.cond c x y) Q s := aw_cond hc (fun _ => k) (fun h' => by rw [h] at h'; cases h')
theorem aw_cF (hc : evA s.tm c = .bool b) (h : b = false) (k : aw E y Q s) : aw E (.cond c x y) Q s := aw_cond hc (fun h' => by rw [h] at h'; cases h') (fun _ => k)
theorem aw_block {id : Nat} (h : aw E x (blockQ id Q) s) : aw E (.block id x) Q s := h
theorem aw_skip (h : Q .normal s) : aw E .skip Q s := h
theorem aw_exit {id : Nat} (h : Q (.exit id) s) : aw E (.exit id) Q s := h
theorem aw_ret (h : Q .ret s) : aw E .ret Q s := h
theorem aw_reg {id : Nat} {ops : Array Oper} (h : aops E ops (Q .normal) ops.toList s) : aw E (.region id ops false) Q s := h
theorem aw_drw {id : Nat} {ops : Array Oper} (ho : ordOk ops = true) (h : aopsD E ops (Q .normal) ops.toList s []) : aw E (.region id ops true) Q s := ⟨ho, h⟩
/-- the end of a piece -/
theorem q_then {K : AState → Prop} (h : K s) : thenQ K Q .normal s := h
theorem q_ret {K : AState → Prop} (h : Q .ret s) : thenQ K Q .ret s := h
theorem q_exit {K : AState → Prop} {id : Nat} (h : Q (.exit id) s) : thenQ K Q (.exit id) s := h
theorem q_blockN {id : Nat} (h : Q .normal s) : blockQ id Q .normal s := h
theorem q_blockR {id : Nat} (h : Q .ret s) : blockQ id Q .ret s := h
theorem q_blockE {id : Nat} (h : Q .normal s) : blockQ id Q (.exit id) s := by simp only [blockQ, if_true]; exact h
theorem q_blockX {id j : Nat} (hj : j ≠ id) (h : Q (.exit j) s) : blockQ id Q (.exit j) s := by simp only [blockQ, if_neg hj]; exact h
end

/-! ### loops and meetings with what holds at them -/
section
variable {E : Env} {Q : Exit → AState → Prop} {s : AState} {a b : Code}
theorem loop1 {α : Type} (J : α → AState) (I : α → Prop) (μ : α → Nat) (x : α) (hx : I x) (h0 : Le s (J x)) (hr : ∀ x, I x → aw E b (thenQ (fun s => ∃ x', (I x' ∧ μ x' < μ x) ∧ Le s (J x')) Q) (J x)) : aw E (.loop b) Q s :=
  aw_loop (α := {x // I x}) (fun x => J x.1) (fun x => μ x.1) ⟨x, hx⟩ h0 fun x => aw_mono b (fun e s q => by
    cases e <;> first | exact q | skip
    obtain ⟨x', h1, h2⟩ := q
    exact ⟨⟨x', h1.1⟩, h1.2, h2⟩) (hr x.1 x.2)
theorem loop2 {α β : Type} (J : α → β → AState) (I : α → β → Prop) (μ : α → β → Nat) (x : α) (y : β) (hx : I x y) (h0 : Le s (J x y)) (hr : ∀ x y, I x y → aw E b (thenQ (fun s => ∃ x' y', (I x' y' ∧ μ x' y' < μ x y) ∧ Le s (J x' y')) Q) (J x y)) : aw E (.loop b) Q s :=
  loop1 (α := α × β) (fun x => J x.1 x.2) (fun x => I x.1 x.2) (fun x => μ x.1 x.2) (x, y) hx h0 fun x hx => aw_mono b (fun e s q => by
    cases e <;> first | exact q | skip
    obtain ⟨x', y', h1, h2⟩ := q
    exact ⟨(x', y'), h1, h2⟩) (hr x.1 x.2 hx)
theorem loop3 {α β γ : Type} (J : α → β → γ → AState) (I : α → β → γ → Prop) (μ : α → β → γ → Nat) (x : α) (y : β) (z : γ) (hx : I x y z) (h0 : Le s (J x y z)) (hr : ∀ x y z, I x y z → aw E b (thenQ (fun s => ∃ x' y' z', (I x' y' z' ∧ μ x' y' z' < μ x y z) ∧ Le s (J x' y' z')) Q) (J x y z)) : aw E (.loop b) Q s :=
  loop1 (α := α × β × γ) (fun x => J x.1 x.2.1 x.2.2) (fun x => I x.1 x.2.1 x.2.2) (fun x => μ x.1 x.2.1 x.2.2) (x, y, z) hx h0 fun x hx => aw_mono b (fun e s q => by
    cases e <;> first | exact q | skip
    obtain ⟨x', y', z', h1, h2⟩ := q
    exact ⟨(x', y', z'), h1, h2⟩) (hr x.1 x.2.1 x.2.2 hx)
theorem cut1 {α : Type} (J : α → AState) (I : α → Prop) (h1 : aw E a (thenQ (fun s => ∃ x, I x ∧ Le s (J x)) Q) s) (h2 : ∀ x, I x → aw E b Q (J x)) : aw E (.seq a b) Q s :=
  aw_cut (α := {x // I x}) (fun x => J x.1) (fun x => h2 x.1 x.2) (aw_mono a (fun e s q => by
    cases e <;> first | exact q | skip
    obtain ⟨x', h1, h2⟩ := q
    exact ⟨⟨x', h1⟩, h2⟩) h1)
end

/-! ### in a drawn region -/
inductive R1L where
  | ok (v : AV) (m : Mem) (A W : List Nat)
  | req (p : Prop) (k : AM AV) (m : Mem) (A W : List Nat)
  | look (L : List Tr) (k : List Tr → AM AV) (m : Mem) (A W : List Nat)
  | call (f : Nat) (pas : List PA) (k : Tr → List PB → AM AV) (m : Mem) (A W : List Nat)
  | fail
def run1L : AM AV → Mem → List Nat → List Nat → R1L
  | .ret v, m, A, W => match v with
    | .any => .ok .any m A W
    | .int k n => .ok (.int k n) m A W
    | .bool b => .ok (.bool b) m A W
    | .str s => .ok (.str s) m A W
    | .agg cs => .ok (.agg cs) m A W
    | .tup cs => .ok (.tup cs) m A W
    | .nils => .ok .nils m A W
    | .ro a b c d => .ok (.ro a b c d) m A W
    | .own a b => .ok (.own a b) m A W
    | .cut a b c d => .ok (.cut a b c d) m A W
    | .inn a b c d e => .ok (.inn a b c d e) m A W
    | .ptr a b c d => .ok (.ptr a b c d) m A W
    | .rptr cs => .ok (.rptr cs) m A W
    | .fn f => .ok (.fn f) m A W
  | .req p k, m, A, W => .req p k m A W
  | .look l k, m, A, W => .look l k m A W
  | .get nm k, m, A, W => run1L (k (m nm)) m (nm :: A) W
  | .set nm b k, m, A, W => run1L k (upd m nm (some b)) (nm :: A) (nm :: W)
  | .call f pas k, m, A, W => .call f pas k m A W
  | _, _, _, _ => .fail
def R1L.wp (P : Program) (L : AV → Mem → List Nat → List Nat → Prop) : R1L → Prop
  | .ok v m A W => L v m A W
  | .req p k m A W => p ∧ wpoL P k m A W L
  | .look l k m A W => wpoL P (k l) m A W L
  | .call f pas k m A W => ∃ res pbs, AGood P f pas res pbs ∧ wpoL P (k res pbs) m A W L
  | .fail => False
theorem wpoL_run {P : Program} {L : AV → Mem → List Nat → List Nat → Prop} : ∀ {p : AM AV} {m A W}, (run1L p m A W).wp P L → wpoL P p m A W L
  | .ret v, m, A, W, h => by cases v <;> simpa only [run1L, R1L.wp, wpoL] using h
  | .fail, m, A, W, h => by simp only [run1L, R1L.wp] at h
  | .req p k, m, A, W, h => by simpa only [run1L, R1L.wp, wpoL] using h
  | .pick k, m, A, W, h => by simp only [run1L, R1L.wp] at h
  | .look l k, m, A, W, h => by simpa only [run1L, R1L.wp, wpoL] using h
  | .get nm k, m, A, W, h => by simp only [run1L] at h; simp only [wpoL]; exact wpoL_run h
  | .set nm b k, m, A, W, h => by simp only [run1L] at h; simp only [wpoL]; exact wpoL_run h
  | .call f pas k, m, A, W, h => by simpa only [run1L, R1L.wp, wpoL] using h
section
variable {P : Program} {L : AV → Mem → List Nat → List Nat → Prop} {p : AM AV} {m m' : Mem} {A W A' W' : List Nat}
theorem l_ok {v : AV} (h : run1L p m A W = .ok v m' A' W') (k : L v m' A' W') : wpoL P p m A W L := wpoL_run (by rw [h]; exact k)
theorem l_req {q : Prop} {k : AM AV} (h : run1L p m A W = .req q k m' A' W') (hq : q) (hk : wpoL P k m' A' W' L) : wpoL P p m A W L := wpoL_run (by rw [h]; exact ⟨hq, hk⟩)
theorem l_look {l l' : List Tr} {k : List Tr → AM AV} (h : run1L p m A W = .look l k m' A' W') (he : l = l') (hk : wpoL P (k l') m' A' W' L) : wpoL P p m A W L := wpoL_run (by rw [h]; subst he; exact hk)
theorem l_call {f : Nat} {pas : List PA} {k : Tr → List PB → AM AV} (h : run1L p m A W = .call f pas k m' A' W') {res : Tr} {pbs : List PB} (hg : AGood P f pas res pbs) (hk : wpoL P (k res pbs) m' A' W' L) : wpoL P p m A W L := wpoL_run (by rw [h]; exact ⟨res, pbs, hg, hk⟩)
variable {τ : TTab} {md : Nat → List Hn} {d : Option Nat} {ty : Nat} {pos : String} {af : Array Edge} {g : Option (Nat × Bool)} {x a b : Operand} {ev : Operand → AV} {D : Nat} {v : AV} {c : Bool}
theorem l_pT (hx : ev x = .bool c) (h : c = true) (hv : run1L (.ret (ev a)) m A W = .ok v m' A' W') (k : L v m' A' W') : wpoL P (AM.osem τ md ⟨d, .pick x a b, ty, pos, af, g⟩ ev D) m A W L := by
  refine l_ok (v := v) (m' := m') (A' := A') (W' := W') ?_ k
  rw [← hv]
  subst h
  simp [AM.osem, AM.pickA, hx]
theorem l_pF (hx : ev x = .bool c) (h : c = false) (hv : run1L (.ret (ev b)) m A W = .ok v m' A' W') (k : L v m' A' W') : wpoL P (AM.osem τ md ⟨d, .pick x a b, ty, pos, af, g⟩ ev D) m A W L := by
  refine l_ok (v := v) (m' := m') (A' := A') (W' := W') ?_ k
  rw [← hv]
  subst h
  simp [AM.osem, AM.pickA, hx]
end
section
variable {E : Env} {all : Array Oper} {K : AState → Prop} {tm : Nat → AV} {m0 : Mem} {gs : List AV} {r : List Oper} {d : Option Nat} {op : Op} {ty : Nat} {pos : String} {af : Array Edge} {j : Nat} {c : Bool} {lg : List (List Nat × List Nat)}
theorem d_nil {s : AState} (hl : logOk all lg.reverse = true) (h : K s) : aopsD E all K [] s lg := ⟨hl, h⟩
theorem d_cons (h : wpoL E.P (AM.osem E.τ E.md ⟨d, op, ty, pos, af, none⟩ (evA tm) (baseOf d)) m0 [] [] fun v m A W => aopsD E all K r ⟨putA tm d v, m, gs⟩ ((A, W) :: lg)) :
    aopsD E all K (⟨d, op, ty, pos, af, none⟩ :: r) ⟨tm, m0, gs⟩ lg := h
theorem d_g {want : Bool} (hc : gdv all tm j = .bool c) (h1 : c = want → wpoL E.P (AM.osem E.τ E.md ⟨d, op, ty, pos, af, some (j, want)⟩ (evA tm) (baseOf d)) m0 [] [] fun v m A W => aopsD E all K r ⟨putA tm d v, m, gs⟩ ((A, W) :: lg)) (h2 : c ≠ want → aopsD E all K r ⟨putA tm d (.tup []), m0, gs⟩ (([], []) :: lg)) :
    aopsD E all K (⟨d, op, ty, pos, af, some (j, want)⟩ :: r) ⟨tm, m0, gs⟩ lg := by
  unfold aopsD
  show guardW (gdv all tm j) want _ _
  rw [hc]
  exact ⟨h1, h2⟩
theorem d_gT (hc : gdv all tm j = .bool c) (h1 : c = true → wpoL E.P (AM.osem E.τ E.md ⟨d, op, ty, pos, af, some (j, true)⟩ (evA tm) (baseOf d)) m0 [] [] fun v m A W => aopsD E all K r ⟨putA tm d v, m, gs⟩ ((A, W) :: lg)) (h2 : c = false → aopsD E all K r ⟨putA tm d (.tup []), m0, gs⟩ (([], []) :: lg)) :
    aopsD E all K (⟨d, op, ty, pos, af, some (j, true)⟩ :: r) ⟨tm, m0, gs⟩ lg := d_g hc h1 fun h => h2 (by simpa using h)
theorem d_gF (hc : gdv all tm j = .bool c) (h1 : c = false → wpoL E.P (AM.osem E.τ E.md ⟨d, op, ty, pos, af, some (j, false)⟩ (evA tm) (baseOf d)) m0 [] [] fun v m A W => aopsD E all K r ⟨putA tm d v, m, gs⟩ ((A, W) :: lg)) (h2 : c = true → aopsD E all K r ⟨putA tm d (.tup []), m0, gs⟩ (([], []) :: lg)) :
    aopsD E all K (⟨d, op, ty, pos, af, some (j, false)⟩ :: r) ⟨tm, m0, gs⟩ lg := d_g hc h1 fun h => h2 (by simpa using h)
theorem d_y {want : Bool} (hc : gdv all tm j = .bool c) (h : c = want) (h1 : wpoL E.P (AM.osem E.τ E.md ⟨d, op, ty, pos, af, some (j, want)⟩ (evA tm) (baseOf d)) m0 [] [] fun v m A W => aopsD E all K r ⟨putA tm d v, m, gs⟩ ((A, W) :: lg)) :
    aopsD E all K (⟨d, op, ty, pos, af, some (j, want)⟩ :: r) ⟨tm, m0, gs⟩ lg := d_g hc (fun _ => h1) fun h' => (h' h).elim
theorem d_nU {want : Bool} (hc : gdv all tm j = .tup []) (h1 : aopsD E all K r ⟨putA tm d (.tup []), m0, gs⟩ (([], []) :: lg)) :
    aopsD E all K (⟨d, op, ty, pos, af, some (j, want)⟩ :: r) ⟨tm, m0, gs⟩ lg := by
  unfold aopsD
  show guardW (gdv all tm j) want _ _
  rw [hc]
  exact h1
theorem d_nT (hc : gdv all tm j = .bool c) (h : c = false) (h1 : aopsD E all K r ⟨putA tm d (.tup []), m0, gs⟩ (([], []) :: lg)) :
    aopsD E all K (⟨d, op, ty, pos, af, some (j, true)⟩ :: r) ⟨tm, m0, gs⟩ lg := d_g hc (fun h' => by rw [h] at h'; cases h') fun _ => h1
theorem d_nF (hc : gdv all tm j = .bool c) (h : c = true) (h1 : aopsD E all K r ⟨putA tm d (.tup []), m0, gs⟩ (([], []) :: lg)) :
    aopsD E all K (⟨d, op, ty, pos, af, some (j, false)⟩ :: r) ⟨tm, m0, gs⟩ lg := d_g hc (fun h' => by rw [h] at h'; cases h') fun _ => h1
end

/-! ### the end of a function -/
section
variable {E : Env} {ts : List Nat} {rs : List ResultVar} {res : Tr} {pbs : List PB} {s : AState}
theorem fin_r {x : Tr × List PB} (h : runG (AM.outAll E.τ ts rs s.tm s.gs) s.mem = .ok x) (hx : x = (res, pbs)) : finQ E ts rs res pbs .ret s := f_ok h hx
theorem fin_n {x : Tr × List PB} (h : runG (AM.outAll E.τ ts rs s.tm s.gs) s.mem = .ok x) (hx : x = (res, pbs)) : finQ E ts rs res pbs .normal s := f_ok h hx
theorem fin_l {m' : Mem} {l l' : List Tr} {k : List Tr → AM (Tr × List PB)} (h : runG (AM.outAll E.τ ts rs s.tm s.gs) s.mem = .look l k m') (he : l = l') (hk : wpo E.P (k l') m' fun r _ => r = (res, pbs)) : finQ E ts rs res pbs .ret s := f_look h he hk
end
end Go.AM
