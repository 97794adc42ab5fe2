/- AN ABSTRACT MACHINE, 16: after a call: the world as it left it; what it gives, what it gives back; a call. No condition of its own. -/
import Derived.Test.YtbkpmljdmlhmhaaA14
set_option linter.unusedVariables false
set_option linter.unusedSimpArgs false
namespace Go.AM
open Go AM

theorem upd_self {α : Type} (f : Nat → α) (k : Nat) : upd f k (f k) = f := by
  funext j; unfold upd; split
  · subst_vars; rfl
  · rfl
mutual
theorem PBok.lt {h : Heap} {T : List Value} : ∀ (p : PB) {v F}, PBok h T p v F → ∀ k, k ∈ F → k < h.size
  | .keep, v, F, H | .gone, v, F, H => by simp only [PBok] at H; simp [H]
  | .own t, v, F, H => by simp only [PBok] at H; exact Ow.lt H.2
  | .box cs, v, F, H => by
    simp only [PBok] at H
    obtain ⟨g, cur, e, fr, G, _, h2, _, _, h5, rfl⟩ := H
    intro k hk
    rcases List.mem_cons.1 hk with rfl | hk
    · exact lt_of_get h2
    · exact OwL.lt h5 k hk
  | .agg ps, v, F, H => by
    simp only [PBok] at H
    obtain ⟨vs, _, h2⟩ := H
    exact PBokL.lt ps h2
theorem PBokL.lt {h : Heap} {T : List Value} : ∀ (ps : List PB) {vs F}, PBokL h T ps vs F → ∀ k, k ∈ F → k < h.size
  | [], vs, F, H => by simp only [PBokL] at H; simp [H.2]
  | p :: ps, vs, F, H => by
    simp only [PBokL] at H
    obtain ⟨v, us, F1, F2, rfl, h1, h2, rfl⟩ := H
    intro k hk
    rcases List.mem_append.1 hk with hk | hk
    · exact PBok.lt p h1 k hk
    · exact PBokL.lt ps h2 k hk
end

section
variable {P : Program} {c : Ctx} {hd : Nat → Value} {fp : Nat → List Nat} {m m' : Mem} {w w' : World} {X Y F G : List Nat} {u : Nat → Bool} {A W : List Nat} {τ : TTab} {α : Type} {y : α}

/-- the world as a call left it -/
theorem HM.called (H : HM c hd fp m w (F ++ X)) (hf : Fr w F w' G) (hn : G.Nodup) (hl : ∀ k, k ∈ G → k < w'.heap.size) : HM c hd fp m w' (G ++ X) ∧ Evo hd m w.heap hd m w'.heap := by
  have far : ∀ nm k, k ∈ fp nm → w'.heap[k]? = w.heap[k]? := fun nm k hk => hf.same k (H.lt hk) (fun h => H.xd nm k hk (List.mem_append_left _ h))
  have E := H.evo_heap (h' := w'.heap) far
  have hXlt : ∀ k, k ∈ X → k < w.heap.size := fun k hk => (H.xreg k (List.mem_append_right _ hk)).2
  have hGX : ∀ k, k ∈ G → k ∉ X := fun k hk hx => by
    rcases hf.own k hk with h | h
    · exact (List.nodup_append.1 H.xnd).2.2 k h k hx rfl
    · have := hXlt k hx; omega
  refine ⟨{ H with
    blk := fun nm b hb => BlkOk.frame H E hb rfl (far nm)
    xnd := List.nodup_append.2 ⟨hn, (List.nodup_append.1 H.xnd).2.1, fun a ha b hb he => hGX a ha (he ▸ hb)⟩
    xd := fun nm k hk hx => ?_
    xreg := fun k hk => ?_
    os := hf.os.trans H.os
    tape := hf.tape.trans H.tape
    output := hf.output.trans H.output
    size := Nat.le_trans H.size hf.size
    same := fun k hk => (hf.same k (Nat.lt_of_lt_of_le hk.2 H.size) (fun h => ?_)).trans (H.same k hk) }, E⟩
  · rcases List.mem_append.1 hx with h | h
    · rcases hf.own k h with h1 | h1
      · exact H.xd nm k hk (List.mem_append_left _ h1)
      · have := H.lt hk; omega
    · exact H.xd nm k hk (List.mem_append_right _ h)
  · rcases List.mem_append.1 hk with h | h
    · refine ⟨?_, hl k h⟩
      rcases hf.own k h with h1 | h1
      · exact (H.xreg k (List.mem_append_left _ h1)).1
      · exact .inr (Nat.le_trans H.size h1)
    · exact ⟨(H.xreg k (List.mem_append_right _ h)).1, Nat.lt_of_lt_of_le (hXlt k h) hf.size⟩
  · rcases (H.xreg k (List.mem_append_left _ h)).1 with h1 | h1
    · exact hk.1 h1
    · have := hk.2; omega

theorem exT_ok {T : List Value} {tgs : List AV} {D j : Nat} {old : AV} {t : Tr} {v : Value} {k : Nat → AV → AM α} (H : HM c hd fp m w (Y ++ X)) (ho : Ow w.heap T t v Y) (hr : t.okR) (h1 : v.oneCell' = true) (hT : AVokL c hd m w.heap tgs T) (hE : Ex P (exT tgs D j old t k) u m y m' A W) :
    ∃ j' x hd1 m1 fp1 A1 W1, Ex P (k j' x) u m1 y m' A1 W1 ∧ HM c hd1 fp1 m1 w X ∧ AVok c hd1 m1 w.heap x v ∧ Evo hd m w.heap hd1 m1 w.heap := by
  have put : ∀ {nm g : Nat} {sz n : Nat} {cs : List Tr}, t = .row sz n cs → (∀ b0, m nm = some b0 → b0.gen < g) → HM c (upd hd nm v) (upd fp nm Y) (upd m nm (some (.row g 0 sz n cs))) w X ∧ AVok c (upd hd nm v) (upd m nm (some (.row g 0 sz n cs))) w.heap (.own nm g) v ∧ Evo hd m w.heap (upd hd nm v) (upd m nm (some (.row g 0 sz n cs))) w.heap := by
    intro nm g sz n cs ht hg
    subst ht
    have hnd := (List.nodup_append.1 H.xnd).1
    have := HM.step (w := w) (w' := w) (Y := Y) (X := X) H nm (blk := .row g 0 sz n cs) (v := v) (F := Y) (Y' := []) rfl rfl rfl (Nat.le_refl _) (fun _ _ _ _ => rfl) (by simpa using hnd)
      (fun k hk => .inr (.inl (by simpa using hk))) (fun k hk => by cases hk)
      (fun b0 h0 => ⟨Nat.le_of_lt (hg b0 h0), fun he => absurd he (Nat.ne_of_lt (hg b0 h0))⟩)
      (fun E => by
        simp only [BlkOk, upd_same]
        exact Ow.plainT _ (by simpa only [Tr.plain, Tr.okR] using hr) ho)
    exact ⟨by simpa using this.1, own_new h1, this.2⟩
  unfold exT at hE
  split at hE
  · exact ⟨_, _, hd, m, fp, A, W, hE, H.leave, by simp only [Ow] at ho; simp only [AVok]; exact ho.1, Evo.refl _ _ _⟩
  · exact ⟨_, _, hd, m, fp, A, W, hE, H.leave, by simp only [Ow] at ho; simp only [AVok]; exact ho.1, Evo.refl _ _ _⟩
  · exact ⟨_, _, hd, m, fp, A, W, hE, H.leave, by simp only [Ow] at ho; simp only [AVok]; exact ho.1, Evo.refl _ _ _⟩
  · split at hE
    · rename_i nm g
      simp only [Ex] at hE
      obtain ⟨B, rfl, hE⟩ := hE
      cases hm : m nm with
      | none => rw [hm] at hE; simp only [Ex] at hE
      | some b =>
        rw [hm] at hE
        cases b with
        | lent g' v' sz' n' =>
          simp only at hE
          split at hE
          · rename_i hg
            subst hg
            simp only [Ex] at hE
            obtain ⟨B2, V, _, _, hE⟩ := hE
            obtain ⟨p1, p2, p3⟩ := put (nm := nm) (g := g' + 1) rfl (fun b0 h0 => by rw [hm] at h0; injection h0 with h0; subst h0; exact Nat.lt_succ_self _)
            exact ⟨_, _, _, _, _, _, _, hE, p1, p2, p3⟩
          · simp only [Ex] at hE
        | _ => simp only [Ex] at hE
    · obtain ⟨g, B, V, hE, hg⟩ := mk_ok hE
      obtain ⟨p1, p2, p3⟩ := put (nm := D + j) (g := g) rfl hg
      exact ⟨_, _, _, _, _, _, _, hE, p1, p2, p3⟩
  · rename_i i
    simp only [Ow] at ho
    refine ⟨_, _, hd, m, fp, A, W, hE, H.leave, ?_, Evo.refl _ _ _⟩
    rw [List.getD_eq_getElem?_getD]
    cases ht : tgs[i]? with
    | none => simp [AVok]
    | some x =>
      obtain ⟨v', hv, hx⟩ := AVokL.get hT ht
      rw [ho.1] at hv; injection hv with hv
      subst hv
      exact hx
  · exact ⟨_, _, hd, m, fp, A, W, hE, H.leave, by simp [AVok], Evo.refl _ _ _⟩

theorem exTL_ok {P : Program} {c : Ctx} {w : World} {α : Type} {y : α} {u : Nat → Bool} {m' : Mem} {T : List Value} {tgs : List AV} {D : Nat} : ∀ (ts : List Tr) (j : Nat) (os : List AV) {hd : Nat → Value} {fp : Nat → List Nat} {m : Mem} {X Y A W : List Nat} {vs : List Value} {k : Nat → List AV → AM α}, HM c hd fp m w (Y ++ X) → OwL w.heap T ts vs Y → Tr.okRL ts → (∀ v, v ∈ vs → v.oneCell' = true) → AVokL c hd m w.heap tgs T → Ex P (exTL tgs D j os ts k) u m y m' A W →
    ∃ j' xs hd1 m1 fp1 A1 W1, Ex P (k j' xs) u m1 y m' A1 W1 ∧ HM c hd1 fp1 m1 w X ∧ AVokL c hd1 m1 w.heap xs vs ∧ Evo hd m w.heap hd1 m1 w.heap
  | [], j, os, hd, fp, m, X, Y, A, W, vs, k, H, ho, hr, h1, hT, hE => by
    simp only [exTL] at hE
    simp only [OwL] at ho
    exact ⟨_, _, hd, m, fp, A, W, hE, H.leave, by simp only [AVokL]; exact ho.1, Evo.refl _ _ _⟩
  | t :: ts, j, os, hd, fp, m, X, Y, A, W, vs, k, H, ho, hr, h1, hT, hE => by
    simp only [exTL] at hE
    simp only [OwL] at ho
    obtain ⟨v, us, F1, F2, rfl, o1, o2, rfl⟩ := ho
    simp only [Tr.okRL] at hr
    obtain ⟨j1, x, hd1, m1, fp1, A1, W1, e1, e2, e3, e4⟩ := exT_ok (Y := F1) (X := F2 ++ X) (by simpa using H) o1 hr.1 (h1 v (by simp)) hT hE
    obtain ⟨j2, xs, hd2, m2, fp2, A2, W2, q1, q2, q3, q4⟩ := exTL_ok ts j1 os.tail e2 o2 hr.2 (fun z hz => h1 z (by simp [hz])) (AVokL.evo e4 tgs hT) e1
    exact ⟨j2, x :: xs, hd2, m2, fp2, A2, W2, q1, q2, by simp only [AVokL]; exact ⟨v, us, rfl, AVok.evo q4 x e3, q3⟩, e4.trans q4⟩

theorem cells_one {h : Heap} {T : List Value} (ht : ∀ t, t ∈ T → t.oneCell' = true) : ∀ {cs : List Tr} {vs F}, cells1 cs → OwL h T cs vs F → ∀ v, v ∈ vs → v.oneCell' = true
  | [], vs, F, _, H => by simp only [OwL] at H; simp [H.1]
  | t :: ts, vs, F, h1, H => by
    simp only [OwL] at H
    obtain ⟨v, us, F1, F2, rfl, a, b, rfl⟩ := H
    intro z hz
    rcases List.mem_cons.1 hz with rfl | hz
    · exact Ow.oneCell (h1 t (by simp)) ht a
    · exact cells_one ht (fun t' h' => h1 t' (by simp [h'])) b z hz

theorem exR_ok {T : List Value} {tgs : List AV} {D j : Nat} {t : Tr} {v : Value} {k : Nat → AV → AM α} (ht : ∀ t, t ∈ T → t.oneCell' = true) (H : HM c hd fp m w (Y ++ X)) (ho : Ow w.heap T t v Y) (hr : t.okR) (hT : AVokL c hd m w.heap tgs T) (hE : Ex P (exR tgs D j t k) u m y m' A W) :
    ∃ j' x hd1 m1 fp1 A1 W1, Ex P (k j' x) u m1 y m' A1 W1 ∧ HM c hd1 fp1 m1 w X ∧ AVok c hd1 m1 w.heap x v ∧ Evo hd m w.heap hd1 m1 w.heap := by
  unfold exR at hE
  split at hE
  · rename_i cs
    simp only [Ow] at ho
    obtain ⟨vs, rfl, o2⟩ := ho
    simp only [Tr.okR] at hr
    have h1 := cells_one ht hr.2 o2
    obtain ⟨j2, xs, hd2, m2, fp2, A2, W2, q1, q2, q3, q4⟩ := exTL_ok cs j [] H o2 hr.1 h1 hT hE
    exact ⟨_, _, hd2, m2, fp2, A2, W2, q1, q2, by simp only [AVok]; exact ⟨vs, rfl, q3, h1⟩, q4⟩
  · rename_i t cs
    simp only [Ow] at ho
    obtain ⟨g, cur, e, fr, G, rfl, h2, h3, h4, h5, rfl⟩ := ho
    simp only [Tr.okR] at hr
    have h1 := cells_one ht h4 h5
    obtain ⟨j2, xs, hd2, m2, fp2, A2, W2, q1, q2, q3, q4⟩ := exTL_ok (Y := G) (X := g :: X) cs (j + 1) [] (H.pocket (by rw [List.cons_append]; exact List.perm_middle)) h5 hr h1 hT hE
    obtain ⟨g1, B, V, q1, hg⟩ := mk_ok q1
    have st := HM.step (w := w) (w' := w) (Y := [g]) (X := X) (by simpa using q2) (D + j) (blk := .box g1 t xs) (v := .pointer (some ⟨g, 0, none⟩)) (F := [g]) (Y' := []) rfl rfl rfl (Nat.le_refl _) (fun _ _ _ _ => rfl) (by simp)
      (fun k hk => .inr (.inl (by simpa using hk))) (fun k hk => by cases hk)
      (fun b0 h0 => ⟨Nat.le_of_lt (hg b0 h0), fun he => absurd he (Nat.ne_of_lt (hg b0 h0))⟩)
      (fun E => by
        simp only [BlkOk, upd_same]
        exact ⟨g, cur, e, fr, rfl, h2, h3, AVokL.evo E xs q3, h1, rfl⟩)
    exact ⟨_, _, _, _, _, _, _, q1, by simpa using st.1, ptr_new, q4.trans st.2⟩
  · have hc : ∀ {t : Tr} {v F}, t.cellB = true → Ow w.heap T t v F → v.oneCell' = true := fun h o => Ow.oneCell h ht o
    by_cases hcb : t.cellB = true
    · exact exT_ok H ho hr (hc hcb ho) hT hE
    · cases t <;> simp [Tr.cellB] at hcb
      case agg q1 q2 => exact (q1 _ rfl).elim
      case tup cs =>
        simp only [exT] at hE
        exact ⟨_, _, hd, m, fp, A, W, hE, H.leave, by simp [AVok], Evo.refl _ _ _⟩

theorem exRL_ok {P : Program} {c : Ctx} {w : World} {α : Type} {y : α} {u : Nat → Bool} {m' : Mem} {T : List Value} (ht : ∀ t, t ∈ T → t.oneCell' = true) {tgs : List AV} {D : Nat} : ∀ (ts : List Tr) (j : Nat) {hd : Nat → Value} {fp : Nat → List Nat} {m : Mem} {X Y A W : List Nat} {vs : List Value} {k : Nat → List AV → AM α}, HM c hd fp m w (Y ++ X) → OwL w.heap T ts vs Y → Tr.okRL ts → AVokL c hd m w.heap tgs T → Ex P (exRL tgs D j ts k) u m y m' A W →
    ∃ j' xs hd1 m1 fp1 A1 W1, Ex P (k j' xs) u m1 y m' A1 W1 ∧ HM c hd1 fp1 m1 w X ∧ AVokL c hd1 m1 w.heap xs vs ∧ Evo hd m w.heap hd1 m1 w.heap
  | [], j, hd, fp, m, X, Y, A, W, vs, k, H, ho, hr, hT, hE => by
    simp only [exRL] at hE
    simp only [OwL] at ho
    exact ⟨_, _, hd, m, fp, A, W, hE, H.leave, by simp only [AVokL]; exact ho.1, Evo.refl _ _ _⟩
  | t :: ts, j, hd, fp, m, X, Y, A, W, vs, k, H, ho, hr, hT, hE => by
    simp only [exRL] at hE
    simp only [OwL] at ho
    obtain ⟨v, us, F1, F2, rfl, o1, o2, rfl⟩ := ho
    simp only [Tr.okRL] at hr
    obtain ⟨j1, x, hd1, m1, fp1, A1, W1, e1, e2, e3, e4⟩ := exR_ok ht (Y := F1) (X := F2 ++ X) (by simpa using H) o1 hr.1 hT hE
    obtain ⟨j2, xs, hd2, m2, fp2, A2, W2, q1, q2, q3, q4⟩ := exRL_ok ht ts j1 e2 o2 hr.2 (AVokL.evo e4 tgs hT) e1
    exact ⟨j2, x :: xs, hd2, m2, fp2, A2, W2, q1, q2, by simp only [AVokL]; exact ⟨v, us, rfl, AVok.evo q4 x e3, q3⟩, e4.trans q4⟩

theorem exRes_ok {T : List Value} {tgs : List AV} {D j : Nat} {t : Tr} {v : Value} {k : Nat → AV → AM α} (ht : ∀ t, t ∈ T → t.oneCell' = true) (H : HM c hd fp m w (Y ++ X)) (ho : Ow w.heap T t v Y) (hr : t.okR) (hT : AVokL c hd m w.heap tgs T) (hE : Ex P (exRes tgs D j t k) u m y m' A W) :
    ∃ j' x hd1 m1 fp1 A1 W1, Ex P (k j' x) u m1 y m' A1 W1 ∧ HM c hd1 fp1 m1 w X ∧ AVok c hd1 m1 w.heap x v ∧ Evo hd m w.heap hd1 m1 w.heap := by
  unfold exRes at hE
  split at hE
  · simp only [Ow] at ho
    obtain ⟨vs, rfl, o2⟩ := ho
    simp only [Tr.okR] at hr
    obtain ⟨j2, xs, hd2, m2, fp2, A2, W2, q1, q2, q3, q4⟩ := exRL_ok ht _ j H o2 hr hT hE
    exact ⟨_, _, hd2, m2, fp2, A2, W2, q1, q2, by simp only [AVok]; exact ⟨vs, rfl, q3⟩, q4⟩
  · exact exR_ok ht H ho hr hT hE

/-! ### what was handed comes back -/
theorem bk1_ok {T : List Value} {b : Bk} {p : PB} {x : AV} {v : Value} {k : AM α} (H : HM c hd fp m w (Y ++ X)) (hp : PBok w.heap T p v Y) (hr : p.okR) (hx : AVok c hd m w.heap x v) (hb : BkFor b x) (hE : Ex P (bk1 b p k) u m y m' A W) :
    ∃ m1 fp1 A1 W1, Ex P k u m1 y m' A1 W1 ∧ HM c hd fp1 m1 w X ∧ Evo hd m w.heap hd m1 w.heap := by
  have hh : ∀ nm, upd hd nm (hd nm) = hd := fun nm => upd_self _ _
  have hnd := (List.nodup_append.1 H.xnd).1
  unfold bk1 at hE
  split at hE
  · rename_i nm g vv sz n sz' n' cs
    simp only [Ex] at hE
    obtain ⟨B, rfl, hE⟩ := hE
    cases hm : m nm with
    | none => rw [hm] at hE; simp only [Ex] at hE
    | some bb =>
      rw [hm] at hE
      cases bb with
      | lent g' v' sz2 n2 =>
        simp only at hE
        split at hE
        · rename_i hg
          obtain ⟨rfl, rfl, rfl, rfl⟩ := hg
          simp only [Ex] at hE
          obtain ⟨⟨rfl, rfl⟩, B2, V, _, _, hE⟩ := hE
          simp only [BkFor] at hb
          subst hb
          simp only [AVok] at hx
          obtain ⟨h1, bb, hb2, hg2, hk2⟩ := hx
          rw [hm] at hb2; injection hb2 with hb2; subst hb2
          have hv : v = hd nm := hk2 rfl
          simp only [PBok] at hp
          simp only [PB.okR, Tr.okR] at hr
          have st := HM.step (w := w) (w' := w) (Y := Y) (X := X) H nm (blk := .row g' (v' + 1) sz' n' cs) (v := hd nm) (F := Y) (Y' := []) rfl rfl rfl (Nat.le_refl _) (fun _ _ _ _ => rfl) (by simpa using hnd)
            (fun k hk => .inr (.inl (by simpa using hk))) (fun k hk => by cases hk)
            (fun b0 h0 => by rw [hm] at h0; injection h0 with h0; subst h0; exact ⟨Nat.le_refl _, fun _ => ⟨rfl, rfl, rfl, Nat.lt_succ_self _⟩⟩)
            (fun E => by
              simp only [BlkOk, upd_same]
              rw [← hv]
              exact Ow.plainT _ (by simpa only [Tr.plain] using hr) hp.2)
          rw [hh] at st
          exact ⟨_, _, _, _, hE, by simpa using st.1, st.2⟩
        · simp only [Ex] at hE
      | _ => simp only [Ex] at hE
  · exact ⟨m, fp, A, W, hE, H.leave, Evo.refl _ _ _⟩
  · rename_i nm g i j vv sz n sz' n' cs2
    simp only [Ex] at hE
    obtain ⟨B, rfl, hE⟩ := hE
    cases hm : m nm with
    | none => rw [hm] at hE; simp only [Ex] at hE
    | some bb =>
      rw [hm] at hE
      cases bb with
      | row g' v' szr nr cs =>
        simp only at hE
        split at hE
        · rename_i hg
          obtain ⟨rfl, rfl, rfl⟩ := hg
          simp only [Ex] at hE
          obtain ⟨rfl, hE⟩ := hE
          cases hL : (el cs szr i)[j]? with
          | none => rw [hL] at hE; simp only [Ex] at hE
          | some t =>
            rw [hL] at hE
            cases t <;> simp only [Ex] at hE
            case hole =>
              obtain ⟨B2, V, _, _, hE⟩ := hE
              simp only [BkFor] at hb
              subst hb
              simp only [AVok] at hx
              obtain ⟨h1, bb, hb2, hg2, hk2⟩ := hx
              rw [hm] at hb2; injection hb2 with hb2; subst hb2
              obtain ⟨_, h3⟩ := hk2 rfl
              obtain ⟨hi, hj, b, N, C, h6, h7⟩ := h3 rfl
              have hblk := H.blk nm _ hm
              simp only [BlkOk] at hblk
              obtain ⟨g0, cap, cur, e, fr, G, k1, k2, k3, k4, k5, k6, k7, k8⟩ := row_block hblk (by omega)
              have hl : cs.length = nr * szr ∧ cells1 cs := by simp only [Ow] at hblk; exact hblk.1
              have hbg : b = g0 := by rw [k1] at h6; injection h6 with h6; injection h6 with h6; injection h6 with h6; exact h6.symm
              subst hbg
              rw [cellAt_of k2] at h7
              have hle : (i + 1) * szr ≤ cs.length := by rw [hl.1]; exact Nat.mul_le_mul_right _ hi
              rw [upEl_set cs szr i j _ hj hle] at hE
              have hL2 : cs[i * szr + j]? = some .hole := by rw [← el_get cs szr i j hj]; exact hL
              obtain ⟨v0, G1, G2, q1, q2, q3, q4⟩ := OwL.set k7 hL2
              simp only [Ow] at q2
              obtain ⟨_, rfl⟩ := q2
              have hv : v0 = v := by
                rw [List.getElem?_take, if_pos (mul_add_lt hi hj), Array.getElem?_toList, h7] at q1
                injection q1 with q1; exact q1.symm
              subst hv
              simp only [PBok] at hp
              simp only [PB.okR, Tr.okR] at hr
              obtain ⟨F2, r1, r2⟩ := q4 (.row sz' n' cs2) v0 Y (Ow.plainT _ (by simpa only [Tr.plain] using hr) hp.2)
              have hset : (cur.toList.take (nr * szr)).set (i * szr + j) v0 = cur.toList.take (nr * szr) := by
                apply List.ext_getElem?
                intro x
                rw [List.getElem?_set]
                split
                · subst_vars
                  split
                  · exact q1.symm
                  · rename_i hh
                    rw [List.getElem?_eq_none (Nat.le_of_not_lt hh)] at q1; cases q1
                · rfl
              rw [hset] at r1
              have hnd2 := H.nd nm
              rw [k8] at hnd2
              have hGp : G.Perm G2 := by simpa using q3
              have hFp : F2.Perm (Y ++ G) := r2.trans (hGp.symm.append_left Y)
              have hYG : ∀ k, k ∈ Y → k ∉ b :: G := fun k hk hk2 => H.xd nm k (by rw [k8]; exact hk2) (List.mem_append_left _ hk)
              have st := HM.step (w := w) (w' := w) (Y := Y) (X := X) H nm (blk := .row g' (v' + 1) szr nr (cs.set (i * szr + j) (.row sz' n' cs2))) (v := hd nm) (F := b :: F2) (Y' := []) rfl rfl rfl (Nat.le_refl _) (fun _ _ _ _ => rfl)
                (by
                  rw [List.append_nil]
                  refine List.nodup_cons.2 ⟨fun hx => ?_, hFp.nodup_iff.2 (List.nodup_append.2 ⟨hnd, (List.nodup_cons.1 hnd2).2, fun a ha b' hb' he => hYG a ha (he ▸ List.mem_cons_of_mem _ hb')⟩)⟩
                  rcases List.mem_append.1 (hFp.mem_iff.1 hx) with h | h
                  · exact hYG b h (by simp)
                  · exact (List.nodup_cons.1 hnd2).1 h)
                (fun k hk => by
                  rw [List.append_nil] at hk
                  rcases List.mem_cons.1 hk with rfl | hk
                  · exact .inl (by rw [k8]; simp)
                  · rcases List.mem_append.1 (hFp.mem_iff.1 hk) with h | h
                    · exact .inr (.inl h)
                    · exact .inl (by rw [k8]; exact List.mem_cons_of_mem _ h))
                (fun k hk => by cases hk)
                (fun b0 h0 => by rw [hm] at h0; injection h0 with h0; subst h0; exact ⟨Nat.le_refl _, fun _ => ⟨rfl, rfl, rfl, Nat.le_succ _, fun hv => by omega⟩⟩)
                (fun E => by
                  simp only [BlkOk, upd_same, Ow]
                  refine ⟨⟨by rw [List.length_set]; exact hl.1, fun t ht => ?_⟩, .inr ⟨b, cap, cur, e, fr, F2, k1, k2, k3, k4, k5, k6, r1, rfl⟩⟩
                  rcases List.mem_or_eq_of_mem_set ht with h | h
                  · exact hl.2 t h
                  · subst h; rfl)
              rw [hh] at st
              exact ⟨_, _, _, _, hE, by simpa using st.1, st.2⟩
        · simp only [Ex] at hE
      | _ => simp only [Ex] at hE
  · rename_i nm g vv sz n
    simp only [Ex] at hE
    obtain ⟨B, rfl, hE⟩ := hE
    cases hm : m nm with
    | none => rw [hm] at hE; simp only [Ex] at hE
    | some bb =>
      rw [hm] at hE
      cases bb with
      | lent g' v' sz2 n2 =>
        simp only at hE
        split at hE
        · rename_i hg
          subst hg
          simp only [Ex] at hE
          obtain ⟨B2, V, _, _, hE⟩ := hE
          obtain ⟨o1, o2⟩ := H.leave.out hm (g := g') rfl
          exact ⟨_, _, _, _, hE, o1.leave, o2⟩
        · simp only [Ex] at hE
      | _ => simp only [Ex] at hE
  · exact ⟨m, fp, A, W, hE, H.leave, Evo.refl _ _ _⟩
  · simp only [Ex] at hE

theorem bk1L_ok {P : Program} {c : Ctx} {hd : Nat → Value} {w : World} {α : Type} {y : α} {u : Nat → Bool} {m' : Mem} {T : List Value} {k : AM α} : ∀ (bs : List Bk) (ps : List PB) (xs : List AV) {fp : Nat → List Nat} {m : Mem} {X Y A W : List Nat} {vs : List Value}, HM c hd fp m w (Y ++ X) → PBokL w.heap T ps vs Y → PB.okRL ps → AVokL c hd m w.heap xs vs → BkForL bs xs → Ex P (bk1L bs ps k) u m y m' A W →
    ∃ m1 fp1 A1 W1, Ex P k u m1 y m' A1 W1 ∧ HM c hd fp1 m1 w X ∧ Evo hd m w.heap hd m1 w.heap
  | [], [], xs, fp, m, X, Y, A, W, vs, H, hp, hr, hx, hb, hE => ⟨m, fp, A, W, by simpa only [bk1L] using hE, H.leave, Evo.refl _ _ _⟩
  | b :: bs, p :: ps, x :: xs, fp, m, X, Y, A, W, vs, H, hp, hr, hx, hb, hE => by
    simp only [bk1L] at hE
    simp only [PBokL] at hp
    simp only [PB.okRL] at hr
    simp only [BkForL] at hb
    simp only [AVokL] at hx
    obtain ⟨v, us, F1, F2, rfl, p1, p2, rfl⟩ := hp
    obtain ⟨v', us', e, x1, x2⟩ := hx
    injection e with e e'
    subst e; subst e'
    obtain ⟨m1, fp1, A1, W1, e1, e2, e3⟩ := bk1_ok (Y := F1) (X := F2 ++ X) (by simpa using H) p1 hr.1 x1 hb.1 hE
    obtain ⟨m2, fp2, A2, W2, q1, q2, q3⟩ := bk1L_ok bs ps xs e2 p2 hr.2 (AVokL.evo e3 xs x2) hb.2 e1
    exact ⟨m2, fp2, A2, W2, q1, q2, e3.trans q3⟩
  | b :: bs, p :: ps, [], fp, m, X, Y, A, W, vs, H, hp, hr, hx, hb, hE => by simp only [BkForL] at hb
  | [], p :: ps, xs, fp, m, X, Y, A, W, vs, H, hp, hr, hx, hb, hE => by simp only [bk1L, Ex] at hE
  | b :: bs, [], xs, fp, m, X, Y, A, W, vs, H, hp, hr, hx, hb, hE => by simp only [bk1L, Ex] at hE

theorem bkA_ok {T : List Value} {tgs : List AV} {D j : Nat} {b : Bk} {p : PB} {x : AV} {v : Value} {k : Nat → AM α} (ht : ∀ t, t ∈ T → t.oneCell' = true) (H : HM c hd fp m w (Y ++ X)) (hp : PBok w.heap T p v Y) (hr : p.okR) (hx : AVok c hd m w.heap x v) (hb : BkForA b x) (hT : AVokL c hd m w.heap tgs T) (hE : Ex P (bkA tgs D j b p k) u m y m' A W) :
    ∃ j' hd1 m1 fp1 A1 W1, Ex P (k j') u m1 y m' A1 W1 ∧ HM c hd1 fp1 m1 w X ∧ Evo hd m w.heap hd1 m1 w.heap := by
  unfold bkA at hE
  split at hE
  · rename_i nm g t os ts
    simp only [BkForA] at hb
    subst hb
    simp only [PBok] at hp
    obtain ⟨g0, cur, e, fr, G, rfl, h2, h3, h4, h5, rfl⟩ := hp
    simp only [PB.okR] at hr
    have h1 := cells_one ht h4 h5
    obtain ⟨j2, xs, hd2, m2, fp2, A2, W2, q1, q2, q3, q4⟩ := exTL_ok (Y := G) (X := g0 :: X) ts j os (H.pocket (by rw [List.cons_append]; exact List.perm_middle)) h5 hr h1 hT hE
    have hx2 := AVok.evo q4 _ hx
    simp only [Ex] at q1
    obtain ⟨B, rfl, q1⟩ := q1
    cases hm : m2 nm with
    | none => rw [hm] at q1; simp only [Ex] at q1
    | some bb =>
      rw [hm] at q1
      cases bb with
      | lentB g' t' =>
        simp only at q1
        split at q1
        · rename_i hg
          obtain ⟨rfl, rfl⟩ := hg
          simp only [Ex] at q1
          obtain ⟨B2, V, _, _, q1⟩ := q1
          simp only [AVok] at hx2
          obtain ⟨_, bb, hb2, hg2, hk2⟩ := hx2
          rw [hm] at hb2; injection hb2 with hb2; subst hb2
          obtain ⟨_, b3, r1, r2⟩ := hk2 rfl
          have hv : hd2 nm = .pointer (some ⟨g0, 0, none⟩) := by rw [r1, r2]
          have hh : upd hd2 nm (hd2 nm) = hd2 := upd_self _ _
          have st := HM.step (w := w) (w' := w) (Y := [g0]) (X := X) (by simpa using q2) nm (blk := .box g' t' xs) (v := hd2 nm) (F := [g0]) (Y' := []) rfl rfl rfl (Nat.le_refl _) (fun _ _ _ _ => rfl) (by simp)
            (fun k hk => .inr (.inl (by simpa using hk))) (fun k hk => by cases hk)
            (fun b0 h0 => by rw [hm] at h0; injection h0 with h0; subst h0; exact ⟨Nat.le_refl _, fun _ => by simp only [EvB]⟩)
            (fun E => by
              rw [hh] at E ⊢
              simp only [BlkOk]
              exact ⟨g0, cur, e, fr, hv, h2, h3, AVokL.evo E xs q3, h1, rfl⟩)
          rw [hh] at st
          exact ⟨_, _, _, _, _, _, q1, by simpa using st.1, q4.trans st.2⟩
        · simp only [Ex] at q1
      | _ => simp only [Ex] at q1
  · rename_i bs ps
    simp only [BkForA] at hb
    obtain ⟨xs, rfl, hb⟩ := hb
    simp only [PBok] at hp
    obtain ⟨vs, rfl, hp⟩ := hp
    simp only [AVok] at hx
    obtain ⟨vs', e, hx, _⟩ := hx
    injection e with e; subst e
    simp only [PB.okR] at hr
    obtain ⟨m1, fp1, A1, W1, q1, q2, q3⟩ := bk1L_ok bs ps xs H hp hr hx hb hE
    exact ⟨_, hd, m1, fp1, A1, W1, q1, q2, q3⟩
  · exact ⟨_, hd, m, fp, A, W, hE, H.leave, Evo.refl _ _ _⟩
  · have hb2 : BkFor b x ∨ ∃ nm g t os, b = .box nm g t os := by
      cases b <;> simp only [BkForA, BkFor] at hb ⊢ <;> first | exact .inl hb | exact .inl trivial | exact .inr ⟨_, _, _, _, rfl⟩ | skip
      rename_i bs _ _ _
      cases p <;> first | (exact absurd rfl (by assumption)) | simp only [bk1, Ex] at hE
    rcases hb2 with hb2 | ⟨nm, g, t, os, rfl⟩
    · obtain ⟨m1, fp1, A1, W1, q1, q2, q3⟩ := bk1_ok H hp hr hx hb2 hE
      exact ⟨_, hd, m1, fp1, A1, W1, q1, q2, q3⟩
    · cases p <;> simp only [bk1, Ex] at hE

theorem bkAL_ok {P : Program} {c : Ctx} {w : World} {α : Type} {y : α} {u : Nat → Bool} {m' : Mem} {T : List Value} (ht : ∀ t, t ∈ T → t.oneCell' = true) {tgs : List AV} {D : Nat} {k : Nat → AM α} : ∀ (bs : List Bk) (ps : List PB) (xs : List AV) (j : Nat) {hd : Nat → Value} {fp : Nat → List Nat} {m : Mem} {X Y A W : List Nat} {vs : List Value}, HM c hd fp m w (Y ++ X) → PBokL w.heap T ps vs Y → PB.okRL ps → AVokL c hd m w.heap xs vs → BkForAL bs xs → AVokL c hd m w.heap tgs T → Ex P (bkAL tgs D j bs ps k) u m y m' A W →
    ∃ j' hd1 m1 fp1 A1 W1, Ex P (k j') u m1 y m' A1 W1 ∧ HM c hd1 fp1 m1 w X ∧ Evo hd m w.heap hd1 m1 w.heap
  | [], [], xs, j, hd, fp, m, X, Y, A, W, vs, H, hp, hr, hx, hb, hT, hE => ⟨j, hd, m, fp, A, W, by simpa only [bkAL] using hE, H.leave, Evo.refl _ _ _⟩
  | b :: bs, p :: ps, x :: xs, j, hd, fp, m, X, Y, A, W, vs, H, hp, hr, hx, hb, hT, hE => by
    simp only [bkAL] at hE
    simp only [PBokL] at hp
    simp only [PB.okRL] at hr
    simp only [BkForAL] at hb
    simp only [AVokL] at hx
    obtain ⟨v, us, F1, F2, rfl, p1, p2, rfl⟩ := hp
    obtain ⟨v', us', e, x1, x2⟩ := hx
    injection e with e e'
    subst e; subst e'
    obtain ⟨j1, hd1, m1, fp1, A1, W1, e1, e2, e3⟩ := bkA_ok ht (Y := F1) (X := F2 ++ X) (by simpa using H) p1 hr.1 x1 hb.1 hT hE
    obtain ⟨j2, hd2, m2, fp2, A2, W2, q1, q2, q3⟩ := bkAL_ok ht bs ps xs j1 e2 p2 hr.2 (AVokL.evo e3 xs x2) hb.2 (AVokL.evo e3 tgs hT) e1
    exact ⟨j2, hd2, m2, fp2, A2, W2, q1, q2, e3.trans q3⟩
  | b :: bs, p :: ps, [], j, hd, fp, m, X, Y, A, W, vs, H, hp, hr, hx, hb, hT, hE => by simp only [BkForAL] at hb
  | [], p :: ps, xs, j, hd, fp, m, X, Y, A, W, vs, H, hp, hr, hx, hb, hT, hE => by simp only [bkAL, Ex] at hE
  | b :: bs, [], xs, j, hd, fp, m, X, Y, A, W, vs, H, hp, hr, hx, hb, hT, hE => by simp only [bkAL, Ex] at hE

/-- A CALL -/
theorem callA_ok {md : Nat → List Hn} {f : Nat} {ts : List Nat} {xs : List AV} {D : Nat} {vals : List Value} {v : AV} {o : Oper} {a : Act} (ho : execOp a.eval o = callFunc f vals.toArray) (H : HM c hd fp m w X) (hx : AVokL c hd m w.heap xs vals) (hE : Ex P (callA τ md f ts xs D) u m v m' A W) : Step P c o a hd m w X v m' := by
  unfold callA at hE
  obtain ⟨ps, bs, l, m1, fp1, F, T, A1, W1, e1, e2, e3, e4, e5, e6, e7, e8⟩ := hndAL_ok _ _ _ H hx hE
  obtain ⟨A2, c1, c2⟩ := chk_ok _ e1
  simp only [Ex] at c1
  obtain ⟨res, pbs, ⟨g1, g2, g3⟩, c1⟩ := c1
  have hpa := e3 c2
  have hs : ∀ k, supp c fp1 l k → k ∉ F ∧ k < w.heap.size := by
    rintro k (hk | ⟨x, _, nm, _, hk⟩)
    · refine ⟨fun h => ?_, Nat.lt_of_lt_of_le hk.2 e2.size⟩
      rcases (e2.xreg k (List.mem_append_left _ h)).1 with h1 | h1
      · exact hk.1 h1
      · have := hk.2; omega
    · exact ⟨fun h => e2.xd nm k hk (List.mem_append_left _ h), e2.lt hk⟩
  have hcall := g3 w vals F T (PAokL.mono hs ps hpa) (List.nodup_append.1 e2.xnd).1 e8
  intro next Q hnext
  have fin : ∀ e w', CallR w vals F T res pbs e w' → ∃ vv, e = .returned vv ∧ next (a.put o.dst vv) w' := by
    rintro e w' ⟨vv, F1, F2, rfl, r1, r2, r3, r4⟩
    have hl : ∀ k, k ∈ F1 ++ F2 → k < w'.heap.size := fun k hk => by
      rcases List.mem_append.1 hk with h | h
      · exact Ow.lt r1 k h
      · exact PBokL.lt pbs r2 k h
    obtain ⟨k1, k2⟩ := e2.called r4 r3 hl
    have k1' : HM c hd fp1 m1 w' (F2 ++ (F1 ++ X)) := k1.pocket (by rw [← List.append_assoc]; exact List.perm_append_comm.append_right X)
    obtain ⟨j1, hd1, m2, fp2, A3, W3, q1, q2, q3⟩ := bkAL_ok e8 _ _ _ _ k1' r2 g2 (AVokL.evo (e5.trans k2) xs hx) e7 (AVokL.evo k2 l e4) c1
    obtain ⟨j2, x, hd2, m3, fp3, A4, W4, z1, z2, z3, z4⟩ := exRes_ok e8 q2 r1 g1 (AVokL.evo (k2.trans q3) l e4) q1
    simp only [Ex] at z1
    obtain ⟨rfl, rfl, _, _⟩ := z1
    exact ⟨vv, rfl, hnext vv w' hd2 fp3 z3 z2 (((e5.trans k2).trans q3).trans z4)⟩
  unfold Oper.wp
  rw [ho]
  unfold CallF at hcall
  split at hcall
  · rename_i heq
    rw [heq]
    obtain ⟨vv, h1, h2⟩ := fin _ _ hcall
    injection h1 with h1; subst h1
    exact h2
  · rename_i heq
    rw [heq]
    refine Calls.mono hcall fun e w' h => ?_
    obtain ⟨vv, rfl, h2⟩ := fin e w' h
    exact h2
  · exact hcall.elim
end
end Go.AM
