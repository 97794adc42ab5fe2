/- AN ABSTRACT MACHINE, 5: how a state changes: one block is written, made, taken. No condition of its own. -/
import Derived.Test.YtbkpmljdmlhmhaaA3
set_option linter.unusedVariables false
set_option linter.unusedSimpArgs false
namespace Go.AM
open Go

/-- where a row's cells lie: in its own block -/
theorem row_mem {h : Heap} {tg : List Value} {sz n : Nat} {cs : List Tr} {v : Value} {F : List Nat} (H : Ow h tg (.row sz n cs) v F) {b N C : Nat} (hv : v = .slice (some ⟨b, 0, none⟩) N C) (hn : 0 < n) : b ∈ F := by
  simp only [Ow] at H
  rcases H.2 with ⟨A, _, h0, _⟩ | ⟨g, cap, cur, e, fr, G, h1, _, _, _, _, _, _, rfl⟩
  · omega
  · rw [hv] at h1
    injection h1 with h1 _ _
    injection h1 with h1
    injection h1 with h1
    simp [h1]

section
variable {c : Ctx} {hd : Nat → Value} {fp : Nat → List Nat} {m : Mem} {w w' : World} {X Y : List Nat}

theorem HM.evo_heap (H : HM c hd fp m w X) {h' : Heap} (hs : ∀ nm k, k ∈ fp nm → h'[k]? = w.heap[k]?) : Evo hd m w.heap hd m h' := by
  intro nm b hb
  refine ⟨b, hb, Nat.le_refl _, fun _ => ?_⟩
  cases b with
  | row g v sz n cs =>
    refine ⟨rfl, rfl, rfl, Nat.le_refl _, fun _ b N C hv o ho => cellAt_frame ?_⟩
    have hn : 0 < n := by
      rcases Nat.eq_zero_or_pos n with h | h
      · subst h; simp at ho
      · exact h
    exact hs nm b (row_mem (H.blk nm _ hb) hv hn)
  | box g t cs => rfl
  | gone g => trivial
  | lent g v sz n => exact ⟨rfl, rfl, rfl, Nat.le_refl _⟩
  | lentB g t => rfl

theorem BlkOk.frame (H : HM c hd fp m w X) {h' : Heap} {hd' : Nat → Value} {m' : Mem} (E : Evo hd m w.heap hd' m' h') {nm : Nat} {b : Blk} (hb : m nm = some b) (hh : hd' nm = hd nm) (hs : ∀ k, k ∈ fp nm → h'[k]? = w.heap[k]?) : BlkOk c hd' m' h' nm b (fp nm) := by
  have hk := H.blk nm b hb
  cases b with
  | row g v sz n cs => simp only [BlkOk] at hk ⊢; rw [hh]; exact Ow.frame _ hk hs
  | box g t cs =>
    simp only [BlkOk] at hk ⊢
    obtain ⟨b, cur, e, fr, h1, h2, h3, h4, h5, h6⟩ := hk
    exact ⟨b, cur, e, fr, hh.trans h1, (hs b (by rw [h6]; simp)).trans h2, h3, AVokL.evo E cs h4, h5, h6⟩
  | gone g => exact hk
  | lent g v sz n => exact hk
  | lentB g t => exact hk

/-- another world in which all that is owned or safe is as it was -/
theorem HM.world (H : HM c hd fp m w X) (ho : w'.os = w.os) (ht : w'.tape = w.tape) (hp : w'.output = w.output) (hz : w.heap.size ≤ w'.heap.size) (hs : ∀ k, k < w.heap.size → w'.heap[k]? = w.heap[k]?) :
    HM c hd fp m w' X ∧ Evo hd m w.heap hd m w'.heap := by
  have E := H.evo_heap (h' := w'.heap) (fun nm k hk => hs k (H.lt hk))
  refine ⟨{ H with
    blk := fun nm b hb => BlkOk.frame H E hb rfl (fun k hk => hs k (H.lt hk))
    xreg := fun k hk => ⟨(H.xreg k hk).1, Nat.lt_of_lt_of_le (H.xreg k hk).2 hz⟩
    os := ho.trans H.os
    tape := ht.trans H.tape
    output := hp.trans H.output
    size := Nat.le_trans H.size hz
    same := fun k hk => (hs k (Nat.lt_of_lt_of_le hk.2 H.size)).trans (H.same k hk) }, E⟩

/-- THE STEP: the block of one name (nm) becomes blk, of the value v, with the blocks F; what it had, or lay in the pocket (Y), or is new, may be used, or go into the pocket (Y'). -/
theorem HM.step (H : HM c hd fp m w (Y ++ X)) (nm : Nat) {blk : Blk} {v : Value} {F Y' : List Nat} (ho : w'.os = w.os) (ht : w'.tape = w.tape) (hp : w'.output = w.output) (hz : w.heap.size ≤ w'.heap.size)
    (hs : ∀ k, k < w.heap.size → k ∉ fp nm → k ∉ Y → w'.heap[k]? = w.heap[k]?) (hn : (F ++ Y').Nodup) (hsub : ∀ k, k ∈ F ++ Y' → k ∈ fp nm ∨ k ∈ Y ∨ w.heap.size ≤ k) (hlt : ∀ k, k ∈ Y' → k < w'.heap.size)
    (hg : ∀ b0, m nm = some b0 → b0.gen ≤ blk.gen ∧ (b0.gen = blk.gen → EvB (hd nm) v w.heap w'.heap b0 blk))
    (hb : Evo hd m w.heap (upd hd nm v) (upd m nm (some blk)) w'.heap → BlkOk c (upd hd nm v) (upd m nm (some blk)) w'.heap nm blk F) :
    HM c (upd hd nm v) (upd fp nm F) (upd m nm (some blk)) w' (Y' ++ X) ∧ Evo hd m w.heap (upd hd nm v) (upd m nm (some blk)) w'.heap := by
  have far : ∀ nm', nm' ≠ nm → ∀ k, k ∈ fp nm' → w'.heap[k]? = w.heap[k]? := fun nm' hne k hk =>
    hs k (H.lt hk) (H.dj nm' nm hne k hk) (fun hy => H.xd nm' k hk (List.mem_append_left _ hy))
  have E : Evo hd m w.heap (upd hd nm v) (upd m nm (some blk)) w'.heap := by
    intro nm' b hb'
    by_cases he : nm' = nm
    · subst he
      obtain ⟨g1, g2⟩ := hg b hb'
      exact ⟨blk, upd_same _ _ _, g1, fun e => by rw [upd_same]; exact g2 e⟩
    · refine ⟨b, by rw [upd_ne _ _ he]; exact hb', Nat.le_refl _, fun _ => ?_⟩
      rw [upd_ne _ _ he]
      cases b with
      | row g v2 sz n cs =>
        refine ⟨rfl, rfl, rfl, Nat.le_refl _, fun _ b N C hv o ho => cellAt_frame ?_⟩
        have hn : 0 < n := by
          rcases Nat.eq_zero_or_pos n with h | h
          · subst h; simp at ho
          · exact h
        exact far nm' he b (row_mem (H.blk nm' _ hb') hv hn)
      | box g t cs => rfl
      | gone g => trivial
      | lent g v sz n => exact ⟨rfl, rfl, rfl, Nat.le_refl _⟩
      | lentB g t => rfl
  have hyx : ∀ k, k ∈ Y → k ∉ X := fun k hy hx => (List.nodup_append.1 H.xnd).2.2 k hy k hx rfl
  have hX : ∀ k, k ∈ X → k < w.heap.size := fun k hk => (H.xreg k (List.mem_append_right _ hk)).2
  have hFX : ∀ k, k ∈ F ++ Y' → k ∉ X := fun k hk hx => by
    rcases hsub k hk with h | h | h
    · exact H.xd nm k h (List.mem_append_right _ hx)
    · exact hyx k h hx
    · have := hX k hx; omega
  have hreg : ∀ k, k ∈ F ++ Y' → k ∈ c.F0 ∨ c.w0.heap.size ≤ k := fun k hk => by
    rcases hsub k hk with h | h | h
    · exact H.reg nm k h
    · exact (H.xreg k (List.mem_append_left _ h)).1
    · exact .inr (Nat.le_trans H.size h)
  have hdj : ∀ nm', nm' ≠ nm → ∀ k, k ∈ fp nm' → k ∉ F ++ Y' := fun nm' hne k hk hf => by
    rcases hsub k hf with h | h | h
    · exact H.dj nm' nm hne k hk h
    · exact H.xd nm' k hk (List.mem_append_left _ h)
    · have := H.lt hk; omega
  refine ⟨{ tg1 := H.tg1
            blk := ?_, non := ?_, nd := ?_, dj := ?_, xnd := ?_, xd := ?_, reg := ?_, xreg := ?_
            os := ho.trans H.os, tape := ht.trans H.tape, output := hp.trans H.output, size := Nat.le_trans H.size hz, same := ?_ }, E⟩
  · intro nm' b hb'
    by_cases he : nm' = nm
    · subst he
      rw [upd_same] at hb' ⊢
      injection hb' with hb'
      subst hb'
      exact hb E
    · rw [upd_ne _ _ he] at hb' ⊢
      exact BlkOk.frame H E hb' (upd_ne _ _ he) (far nm' he)
  · intro nm' h0
    by_cases he : nm' = nm
    · subst he; rw [upd_same] at h0; cases h0
    · rw [upd_ne _ _ he] at h0 ⊢; exact H.non nm' h0
  · intro nm'
    by_cases he : nm' = nm
    · subst he; rw [upd_same]; exact (List.nodup_append.1 hn).1
    · rw [upd_ne _ _ he]; exact H.nd nm'
  · intro n1 n2 hne k hk
    by_cases h1 : n1 = nm
    · subst h1
      rw [upd_same] at hk
      rw [upd_ne _ _ (Ne.symm hne)]
      exact fun h2 => hdj n2 (Ne.symm hne) k h2 (List.mem_append_left _ hk)
    · rw [upd_ne _ _ h1] at hk
      by_cases h2 : n2 = nm
      · subst h2; rw [upd_same]; exact fun h => hdj n1 h1 k hk (List.mem_append_left _ h)
      · rw [upd_ne _ _ h2]; exact H.dj n1 n2 hne k hk
  · rw [List.nodup_append]
    exact ⟨(List.nodup_append.1 hn).2.1, (List.nodup_append.1 H.xnd).2.1, fun a ha b hb he => hFX a (List.mem_append_right _ ha) (he ▸ hb)⟩
  · intro nm' k hk hk2
    rcases List.mem_append.1 hk2 with h | h
    · by_cases he : nm' = nm
      · subst he; rw [upd_same] at hk
        exact (List.nodup_append.1 hn).2.2 k hk k h rfl
      · rw [upd_ne _ _ he] at hk
        exact hdj nm' he k hk (List.mem_append_right _ h)
    · by_cases he : nm' = nm
      · subst he; rw [upd_same] at hk
        exact hFX k (List.mem_append_left _ hk) h
      · rw [upd_ne _ _ he] at hk
        exact H.xd nm' k hk (List.mem_append_right _ h)
  · intro nm' k hk
    by_cases he : nm' = nm
    · subst he; rw [upd_same] at hk; exact hreg k (List.mem_append_left _ hk)
    · rw [upd_ne _ _ he] at hk; exact H.reg nm' k hk
  · intro k hk
    rcases List.mem_append.1 hk with h | h
    · exact ⟨hreg k (List.mem_append_right _ h), hlt k h⟩
    · exact ⟨(H.xreg k (List.mem_append_right _ h)).1, Nat.lt_of_lt_of_le (hX k h) hz⟩
  · intro k hk
    refine (hs k (Nat.lt_of_lt_of_le hk.2 H.size) (fun h => ?_) (fun h => ?_)).trans (H.same k hk)
    · rcases H.reg nm k h with h1 | h1
      · exact hk.1 h1
      · have := hk.2; omega
    · rcases (H.xreg k (List.mem_append_left _ h)).1 with h1 | h1
      · exact hk.1 h1
      · have := hk.2; omega

/-- as it was, but for the pocket's order -/
theorem HM.pocket (H : HM c hd fp m w X) {X' : List Nat} (hp : X'.Perm X) : HM c hd fp m w X' :=
  { H with
    xnd := hp.nodup_iff.2 H.xnd
    xd := fun nm k hk h => H.xd nm k hk (hp.mem_iff.1 h)
    xreg := fun k hk => H.xreg k (hp.mem_iff.1 hk) }
/-- what lies in the pocket may be left -/
theorem HM.leave (H : HM c hd fp m w (Y ++ X)) : HM c hd fp m w X :=
  { H with
    xnd := (List.nodup_append.1 H.xnd).2.1
    xd := fun nm k hk h => H.xd nm k hk (List.mem_append_right _ h)
    xreg := fun k hk => H.xreg k (List.mem_append_right _ hk) }
/-- the block of a name goes out -/
theorem HM.out (H : HM c hd fp m w X) {nm g : Nat} {b : Blk} (hb : m nm = some b) (hg : b.gen = g) : HM c hd (upd fp nm []) (upd m nm (some (.gone g))) w (fp nm ++ X) ∧ Evo hd m w.heap hd (upd m nm (some (.gone g))) w.heap := by
  have hh : upd hd nm (hd nm) = hd := by funext k; unfold upd; split <;> simp_all
  have := HM.step (Y := []) (X := X) (w' := w) (by simpa using H) nm (blk := .gone g) (v := hd nm) (F := []) (Y' := fp nm) rfl rfl rfl (Nat.le_refl _) (fun _ _ _ _ => rfl) (by simpa using H.nd nm)
    (fun k hk => .inl (by simpa using hk)) (fun k hk => H.lt hk) (fun b0 h0 => by
      rw [hb] at h0; injection h0 with h0; subst h0
      refine ⟨Nat.le_of_eq hg, fun _ => ?_⟩
      cases b <;> trivial) (fun _ => rfl)
  rw [hh] at this
  exact this
end
end Go.AM
