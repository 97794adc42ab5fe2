/- AN ABSTRACT MACHINE, 21: one state as another (at a loop's head, where ways meet): names and counts anew, what isn't needed forgotten; rules to walk by. No condition of its own. -/
import Derived.Test.YtbkpmljdmlhmhaaA19
set_option linter.unusedVariables false
set_option linter.unusedSimpArgs false
namespace Go.AM
open Go AM

def tbl : List (Nat × AV) → Nat → AV
  | [], _ => .any
  | (k, x) :: r, t => if t = k then x else tbl r t
def mbl : List (Nat × Blk) → Mem
  | [], _ => none
  | (k, b) :: r, t => if t = k then some b else mbl r t
/-- whence a name is -/
def lkp : List (Nat × Nat) → Nat → Option Nat
  | [], _ => none
  | (k, x) :: r, t => if t = k then some x else lkp r t
def genB (b : Option Blk) (g : Nat) : Bool :=
  match b with
  | some b => b.gen == g
  | none => false
def deadB (b : Option Blk) (g : Nat) : Bool :=
  match b with
  | some b => decide (g < b.gen)
  | none => false
/-- the same handle: from nm, g to nm', g' -/
def linkB (S : List (Nat × Nat)) (m m' : Mem) (nm g nm' g' : Nat) : Bool := (lkp S nm' == some nm) && genB (m nm) g && genB (m' nm') g'
mutual
def leA (S : List (Nat × Nat)) (m m' : Mem) : AV → AV → Prop
  | x, .any => True
  | .int k n, .int k' n' => k = k' ∧ n = n'
  | .bool b, .bool b' => b = b'
  | .str s, .str s' => s = s'
  | .agg cs, .agg cs' => leAL S m m' cs cs'
  | .tup cs, .tup cs' => leAL S m m' cs cs'
  | .nils, .nils => True
  | .nils, .ro tg sz n cs => tg = none ∧ n = 0 ∧ cs = []
  | .ro tg sz n cs, .ro tg' sz' n' cs' => (tg' = none ∨ tg' = tg) ∧ sz = sz' ∧ n = n' ∧ cs = cs'
  | .own nm g, .own nm' g' => (linkB S m m' nm g nm' g' || deadB (m' nm') g') = true
  | .cut nm g off n, .cut nm' g' off' n' => linkB S m m' nm g nm' g' = true ∧ off = off' ∧ n = n'
  | .ptr nm g i off, .ptr nm' g' i' off' => linkB S m m' nm g nm' g' = true ∧ i = i' ∧ off = off'
  | .rptr cs, .rptr cs' => cs = cs'
  | .fn f, .fn f' => f = f'
  | _, _ => False
def leAL (S : List (Nat × Nat)) (m m' : Mem) : List AV → List AV → Prop
  | [], [] => True
  | x :: xs, y :: ys => leA S m m' x y ∧ leAL S m m' xs ys
  | _, _ => False
end
def leB (S : List (Nat × Nat)) (m m' : Mem) (nm' : Nat) (b' : Blk) : Prop :=
  match b' with
  | .gone _ => True
  | .row g' v' sz' n' cs' => match (lkp S nm').bind m with
    | some (.row g v sz n cs) => sz = sz' ∧ n = n' ∧ cs = cs'
    | _ => False
  | .box g' t' cs' => match (lkp S nm').bind m with
    | some (.box g t cs) => t = t' ∧ leAL S m m' cs cs'
    | _ => False
  | _ => False
def leTs (S : List (Nat × Nat)) (m m' : Mem) (tm : Nat → AV) : List (Nat × AV) → Prop
  | [] => True
  | (t, x) :: r => leA S m m' (tm t) x ∧ leTs S m m' tm r
def leMs (S : List (Nat × Nat)) (m m' : Mem) : List (Nat × Blk) → Prop
  | [] => True
  | (nm, b) :: r => leB S m m' nm b ∧ leMs S m m' r
def nodupB : List Nat → Bool
  | [] => true
  | x :: xs => !xs.contains x && nodupB xs
def leC (S : List (Nat × Nat)) (s : AState) (T : List (Nat × AV)) (M : List (Nat × Blk)) (G : List AV) : Prop :=
  nodupB (S.map (·.2)) = true ∧ leTs S s.mem (mbl M) s.tm T ∧ leMs S s.mem (mbl M) M ∧ leAL S s.mem (mbl M) s.gs G

theorem lkp_mem {x : Nat} : ∀ {S : List (Nat × Nat)} {k : Nat}, lkp S k = some x → (k, x) ∈ S
  | (k0, x0) :: r, k, h => by
    unfold lkp at h
    split at h
    · subst_vars; simp at h; simp [h]
    · exact List.mem_cons_of_mem _ (lkp_mem h)
theorem mbl_mem {x : Blk} : ∀ {S : List (Nat × Blk)} {k : Nat}, mbl S k = some x → (k, x) ∈ S
  | (k0, x0) :: r, k, h => by
    unfold mbl at h
    split at h
    · subst_vars; simp at h; simp [h]
    · exact List.mem_cons_of_mem _ (mbl_mem h)
theorem lkp_inj : ∀ {S : List (Nat × Nat)} {j k x : Nat}, nodupB (S.map (·.2)) = true → lkp S j = some x → lkp S k = some x → j = k
  | (k0, x0) :: r, j, k, x, hn, h1, h2 => by
    simp only [List.map_cons, nodupB, Bool.and_eq_true, Bool.not_eq_true'] at hn
    have no : ∀ {i}, lkp r i = some x0 → False := fun h => by
      have := lkp_mem h
      have hm : x0 ∈ r.map (·.2) := List.mem_map.2 ⟨_, this, rfl⟩
      have := hn.1
      simp at this
      obtain ⟨⟨a, b⟩, hab, e⟩ := List.mem_map.1 hm
      exact this a (by simpa [← e] using hab)
    unfold lkp at h1 h2
    split at h1
    · split at h2
      · subst_vars; rfl
      · injection h1 with h1; subst h1; exact (no h2).elim
    · split at h2
      · injection h2 with h2; subst h2; exact (no h1).elim
      · exact lkp_inj hn.2 h1 h2
theorem leTs_spec {S : List (Nat × Nat)} {m m' : Mem} {tm : Nat → AV} : ∀ {T : List (Nat × AV)}, leTs S m m' tm T → ∀ t, leA S m m' (tm t) (tbl T t)
  | [], _, t => by simp only [tbl, leA]
  | (k, x) :: r, h, t => by
    unfold tbl
    split
    · subst_vars; exact h.1
    · exact leTs_spec h.2 t
theorem leMs_spec {S : List (Nat × Nat)} {m m' : Mem} : ∀ {M : List (Nat × Blk)}, leMs S m m' M → ∀ nm b, (nm, b) ∈ M → leB S m m' nm b
  | (k, x) :: r, h, nm, b, hm => by
    rcases List.mem_cons.1 hm with e | hm
    · injection e with e1 e2; subst e1; subst e2; exact h.1
    · exact leMs_spec h.2 nm b hm

section
variable {c : Ctx} {hd hd' : Nat → Value} {m m' : Mem} {h : Heap} {S : List (Nat × Nat)}
/-- a handle goes over -/
theorem link_ok (hS : ∀ nm' b', m' nm' = some b' → leB S m m' nm' b') (hh : ∀ nm' nm, lkp S nm' = some nm → hd' nm' = hd nm) {nm g nm' g' : Nat} (hl : linkB S m m' nm g nm' g' = true) {p p' : Blk → Prop} (H : Ref m nm g p)
    (hp : ∀ b b', m nm = some b → m' nm' = some b' → hd' nm' = hd nm → leB S m m' nm' b' → lkp S nm' = some nm → p b → p' b') : Ref m' nm' g' p' := by
  unfold linkB at hl
  simp only [Bool.and_eq_true, beq_iff_eq] at hl
  obtain ⟨⟨l1, l2⟩, l3⟩ := hl
  cases hb' : m' nm' with
  | none => rw [hb'] at l3; simp [genB] at l3
  | some b' =>
    rw [hb'] at l3
    simp only [genB, beq_iff_eq] at l3
    obtain ⟨b, hb, hg, hk⟩ := H
    rw [hb] at l2
    simp only [genB, beq_iff_eq] at l2
    exact ⟨b', hb', Nat.le_of_eq l3.symm, fun _ => hp b b' hb hb' (hh _ _ l1) (hS _ _ hb') l1 (hk l2.symm)⟩
theorem leB_row {nm' nm g' v' sz' n' : Nat} {cs' : List Tr} (hB : leB S m m' nm' (.row g' v' sz' n' cs')) (l : lkp S nm' = some nm) : ∃ g v, m nm = some (.row g v sz' n' cs') := by
  simp only [leB, l, Option.bind_some] at hB
  split at hB
  · rename_i g v sz n cs hm
    obtain ⟨rfl, rfl, rfl⟩ := hB
    exact ⟨g, v, hm⟩
  · exact hB.elim
theorem leB_box {nm' nm g' t' : Nat} {cs' : List AV} (hB : leB S m m' nm' (.box g' t' cs')) (l : lkp S nm' = some nm) : ∃ g cs, m nm = some (.box g t' cs) ∧ leAL S m m' cs cs' := by
  simp only [leB, l, Option.bind_some] at hB
  split at hB
  · rename_i g t cs hm
    obtain ⟨rfl, h2⟩ := hB
    exact ⟨g, cs, hm, h2⟩
  · exact hB.elim
mutual
theorem leA_ok (hS : ∀ nm' b', m' nm' = some b' → leB S m m' nm' b') (hh : ∀ nm' nm, lkp S nm' = some nm → hd' nm' = hd nm) : ∀ (x y : AV) {v : Value}, leA S m m' x y → AVok c hd m h x v → AVok c hd' m' h y v
  | x, .any, v, _, _ => by simp only [AVok]
  | .int k n, .int k' n', v, hl, H => by simp only [leA] at hl; obtain ⟨rfl, rfl⟩ := hl; simpa only [AVok] using H
  | .bool b, .bool b', v, hl, H => by simp only [leA] at hl; subst hl; simpa only [AVok] using H
  | .str b, .str b', v, hl, H => by simp only [leA] at hl; subst hl; simpa only [AVok] using H
  | .agg cs, .agg cs', v, hl, H => by
    simp only [leA] at hl
    simp only [AVok] at H ⊢
    obtain ⟨vs, h1, h2, h3⟩ := H
    exact ⟨vs, h1, leAL_ok hS hh cs cs' hl h2, h3⟩
  | .tup cs, .tup cs', v, hl, H => by
    simp only [leA] at hl
    simp only [AVok] at H ⊢
    obtain ⟨vs, h1, h2⟩ := H
    exact ⟨vs, h1, leAL_ok hS hh cs cs' hl h2⟩
  | .nils, .nils, v, hl, H => by simpa only [AVok] using H
  | .nils, .ro tg sz n cs, v, hl, H => by
    simp only [leA] at hl
    obtain ⟨rfl, rfl, rfl⟩ := hl
    simp only [AVok] at H ⊢
    obtain ⟨A, rfl⟩ := H
    refine ⟨?_, fun k hk => by cases hk⟩
    simp only [Rd]
    exact ⟨by simp [cells1], A, 0, [], rfl, Nat.le_refl _, by unfold maxL; omega, by simp [RdL], fun hne => absurd rfl hne⟩
  | .ro tg sz n cs, .ro tg' sz' n' cs', v, hl, H => by
    simp only [leA] at hl
    obtain ⟨ht, rfl, rfl, rfl⟩ := hl
    simp only [AVok] at H ⊢
    refine ⟨H.1, fun k hk => ?_⟩
    rcases ht with rfl | rfl
    · cases hk
    · exact H.2 k hk
  | .own nm g, .own nm' g', v, hl, H => by
    simp only [leA, Bool.or_eq_true] at hl
    simp only [AVok] at H ⊢
    refine ⟨H.1, ?_⟩
    rcases hl with hl | hl
    · refine link_ok hS hh hl H.2 fun b b' hb hb' e hB l hp => ?_
      cases b' <;> simp only [ownB]
      · obtain ⟨g0, v0, hm⟩ := leB_row hB l
        rw [hb] at hm; injection hm with hm; subst hm
        rw [e]; exact hp
      · exact hB.elim
    · unfold deadB at hl
      split at hl
      · rename_i b hb
        exact ⟨b, hb, Nat.le_of_lt (of_decide_eq_true hl), fun e => by have := of_decide_eq_true hl; omega⟩
      · cases hl
  | .cut nm g off n, .cut nm' g' off' n', v, hl, H => by
    simp only [leA] at hl
    obtain ⟨hl, rfl, rfl⟩ := hl
    simp only [AVok] at H ⊢
    refine ⟨H.1, link_ok hS hh hl H.2 fun b b' hb hb' e hB l hp => ?_⟩
    cases b' <;> simp only [cutB]
    · obtain ⟨g0, v0, hm⟩ := leB_row hB l
      rw [hb] at hm; injection hm with hm; subst hm
      rw [e]; exact hp
    · exact hB.elim
  | .ptr nm g i off, .ptr nm' g' i' off', v, hl, H => by
    simp only [leA] at hl
    obtain ⟨hl, rfl, rfl⟩ := hl
    simp only [AVok] at H ⊢
    refine ⟨H.1, link_ok hS hh hl H.2 fun b b' hb hb' e hB l hp => ?_⟩
    cases b' <;> simp only [ptrB]
    · obtain ⟨g0, v0, hm⟩ := leB_row hB l
      rw [hb] at hm; injection hm with hm; subst hm
      rw [e]; exact hp
    · obtain ⟨g0, cs0, hm, _⟩ := leB_box hB l
      rw [hb] at hm; injection hm with hm; subst hm
      rw [e]; exact hp
    · exact hB.elim
    · exact hB.elim
  | .rptr cs, .rptr cs', v, hl, H => by simp only [leA] at hl; subst hl; simpa only [AVok] using H
  | .fn f, .fn f', v, hl, H => by simp only [leA] at hl; subst hl; simpa only [AVok] using H
  | .inn .., .inn .., v, hl, H => by simp only [leA] at hl
theorem leAL_ok (hS : ∀ nm' b', m' nm' = some b' → leB S m m' nm' b') (hh : ∀ nm' nm, lkp S nm' = some nm → hd' nm' = hd nm) : ∀ (xs ys : List AV) {vs : List Value}, leAL S m m' xs ys → AVokL c hd m h xs vs → AVokL c hd' m' h ys vs
  | [], [], vs, _, H => by simpa only [AVokL] using H
  | x :: xs, y :: ys, vs, hl, H => by
    simp only [leAL] at hl
    simp only [AVokL] at H ⊢
    obtain ⟨v, us, h1, h2, h3⟩ := H
    exact ⟨v, us, h1, leA_ok hS hh x y hl.1 h2, leAL_ok hS hh xs ys hl.2 h3⟩
  | [], _ :: _, vs, hl, H => by simp only [leAL] at hl
  | _ :: _, [], vs, hl, H => by simp only [leAL] at hl
end
end
/-- ONE STATE AS ANOTHER -/
theorem le_of {s : AState} {T : List (Nat × AV)} {M : List (Nat × Blk)} {G : List AV} (S : List (Nat × Nat)) (hl : leC S s T M G) : Le s ⟨tbl T, mbl M, G⟩ := by
  intro c gv N a w H
  obtain ⟨hd, fp, H, hR, hG, h4, h5⟩ := H
  obtain ⟨i1, i2, i3, i4⟩ := hl
  have hS : ∀ nm' b', mbl M nm' = some b' → leB S s.mem (mbl M) nm' b' := fun nm' b' hb => leMs_spec i3 nm' b' (mbl_mem hb)
  let hd' : Nat → Value := fun nm' => match lkp S nm' with
    | some nm => hd nm
    | none => undef
  have hh : ∀ nm' nm, lkp S nm' = some nm → hd' nm' = hd nm := fun nm' nm hl => by show (match lkp S nm' with | some nm => hd nm | none => undef) = _; rw [hl]
  let fp' : Nat → List Nat := fun nm' => match mbl M nm', lkp S nm' with
    | some (.row ..), some nm => fp nm
    | some (.box ..), some nm => fp nm
    | _, _ => []
  have hfp : ∀ nm' k, k ∈ fp' nm' → ∃ nm, lkp S nm' = some nm ∧ fp' nm' = fp nm := by
    intro nm' k hk
    have e : fp' nm' = (match mbl M nm', lkp S nm' with
      | some (.row ..), some nm => fp nm
      | some (.box ..), some nm => fp nm
      | _, _ => []) := rfl
    rw [e] at hk
    split at hk
    · rename_i h1 h2; exact ⟨_, h2, by rw [e, h1, h2]⟩
    · rename_i h1 h2; exact ⟨_, h2, by rw [e, h1, h2]⟩
    · cases hk
  refine ⟨hd', fp', ?_, fun t => leA_ok hS hh _ _ (leTs_spec i2 t) (hR t), leAL_ok hS hh _ _ i4 hG, h4, h5⟩
  refine { H with blk := ?_, non := ?_, nd := ?_, dj := ?_, xd := ?_, reg := ?_ }
  · intro nm' b' hb'
    have hb' : mbl M nm' = some b' := hb'
    have hB := hS nm' b' hb'
    cases b' with
    | row g' v' sz' n' cs' =>
      cases hl : lkp S nm' with
      | none => simp only [leB, hl, Option.bind_none] at hB
      | some nm =>
        obtain ⟨g, v, hm⟩ := leB_row hB hl
        have hk := H.blk nm _ hm
        have e : fp' nm' = fp nm := by show (match mbl M nm', lkp S nm' with | some (.row ..), some nm => fp nm | some (.box ..), some nm => fp nm | _, _ => []) = _; rw [hb', hl]
        simp only [BlkOk] at hk ⊢
        rw [hh _ _ hl, e]; exact hk
    | box g' t' cs' =>
      cases hl : lkp S nm' with
      | none => simp only [leB, hl, Option.bind_none] at hB
      | some nm =>
        obtain ⟨g, cs, hm, hcs⟩ := leB_box hB hl
        have hk := H.blk nm _ hm
        have e : fp' nm' = fp nm := by show (match mbl M nm', lkp S nm' with | some (.row ..), some nm => fp nm | some (.box ..), some nm => fp nm | _, _ => []) = _; rw [hb', hl]
        simp only [BlkOk] at hk ⊢
        rw [hh _ _ hl, e]
        obtain ⟨b, cur, e0, fr, k1, k2, k3, k4, k5, k6⟩ := hk
        exact ⟨b, cur, e0, fr, k1, k2, k3, leAL_ok hS hh _ _ hcs k4, k5, k6⟩
    | gone g' => show (match mbl M nm', lkp S nm' with | some (.row ..), some nm => fp nm | some (.box ..), some nm => fp nm | _, _ => []) = _; rw [hb']
    | lent _ _ _ _ => exact hB.elim
    | lentB _ _ => exact hB.elim
  · intro nm' hn
    have hn : mbl M nm' = none := hn
    show (match mbl M nm', lkp S nm' with | some (.row ..), some nm => fp nm | some (.box ..), some nm => fp nm | _, _ => []) = _
    rw [hn]
  · intro nm'
    cases hx : fp' nm' with
    | nil => exact List.nodup_nil
    | cons k r =>
      obtain ⟨nm, _, e⟩ := hfp nm' k (by rw [hx]; simp)
      rw [← hx, e]; exact H.nd nm
  · intro nm1 nm2 hne k hk1 hk2
    obtain ⟨a, ha, ea⟩ := hfp nm1 k hk1
    obtain ⟨b, hb, eb⟩ := hfp nm2 k hk2
    rw [ea] at hk1
    rw [eb] at hk2
    exact H.dj a b (fun e => hne (lkp_inj i1 ha (e ▸ hb))) k hk1 hk2
  · intro nm' k hk hx; cases hx
  · intro nm' k hk
    obtain ⟨a, ha, ea⟩ := hfp nm' k hk
    rw [ea] at hk
    exact H.reg a k hk

/-- a slice that is none becomes an empty one of its own: in a temporary -/
theorem Le.nilT {s : AState} (t D g sz : Nat) (ht : s.tm t = .nils) (hD : ∀ b0, s.mem D = some b0 → b0.gen < g) : Le s ⟨upd s.tm t (.own D g), upd s.mem D (some (.row g 0 sz 0 [])), s.gs⟩ := by
  intro c gv N a w H
  obtain ⟨hd, fp, H, hR, hG, h4, h5⟩ := H
  have hx := hR t
  rw [ht] at hx
  simp only [AVok] at hx
  obtain ⟨B, hB⟩ := hx
  obtain ⟨k1, k2⟩ := H.newNil D (g := g) (v := 0) (sz := sz) (B := B) hD
  refine ⟨_, _, k1, fun t' => ?_, AVokL.evo k2 _ hG, h4, h5⟩
  by_cases he : t' = t
  · subst he
    show AVok _ _ _ _ (upd s.tm t' _ t') _
    rw [upd_same, hB]; exact own_new rfl
  · show AVok _ _ _ _ (upd s.tm t _ t') _
    rw [upd_ne _ _ he]; exact AVok.evo k2 _ (hR t')
/-- in a block -/
theorem Le.nilB {s : AState} (nm j D g sz : Nat) {g0 bt : Nat} {cs : List AV} (hb : s.mem nm = some (.box g0 bt cs)) (hj : cs[j]? = some .nils) (hD : ∀ b0, s.mem D = some b0 → b0.gen < g) (hne : D ≠ nm) : Le s ⟨s.tm, upd (upd s.mem D (some (.row g 0 sz 0 []))) nm (some (.box g0 bt (cs.set j (.own D g)))), s.gs⟩ := by
  intro c gv N a w H
  obtain ⟨hd, fp, H, hR, hG, h4, h5⟩ := H
  have hk := H.blk nm _ hb
  simp only [BlkOk] at hk
  obtain ⟨b, cur, e0, fr, q1, q2, q3, q4, q5, q6⟩ := hk
  obtain ⟨v, hv, hx⟩ := AVokL.get q4 hj
  simp only [AVok] at hx
  obtain ⟨B, rfl⟩ := hx
  obtain ⟨k1, k2⟩ := H.newNil D (g := g) (v := 0) (sz := sz) (B := B) hD
  have hb1 : (upd s.mem D (some (.row g 0 sz 0 []))) nm = some (.box g0 bt cs) := by rw [upd_ne _ _ (Ne.symm hne)]; exact hb
  have hset : cur.toList.set j (.slice B 0 0) = cur.toList := by
    apply List.ext_getElem?
    intro x
    rw [List.getElem?_set]
    split
    · subst_vars
      split
      · exact hv.symm
      · rename_i hh; rw [List.getElem?_eq_none (Nat.le_of_not_lt hh)] at hv; cases hv
    · rfl
  have hfp : upd fp D [] nm = [b] := by rw [upd_ne _ _ (Ne.symm hne)]; exact q6
  have hhd : upd hd D (.slice B 0 0) nm = hd nm := upd_ne _ _ (Ne.symm hne)
  have st := HM.step (w := w) (w' := w) (Y := []) (X := []) (by simpa using k1) nm (blk := .box g0 bt (cs.set j (.own D g))) (v := hd nm) (F := [b]) (Y' := []) rfl rfl rfl (Nat.le_refl _) (fun _ _ _ _ => rfl) (by simp)
    (fun k hk => .inl (by rw [hfp]; simpa using hk)) (fun k hk => by cases hk)
    (fun b0 h0 => by rw [hb1] at h0; injection h0 with h0; subst h0; exact ⟨Nat.le_refl _, fun _ => by simp only [EvB]; exact hhd.symm⟩)
    (fun E => by
      simp only [BlkOk, upd_same]
      refine ⟨b, cur, e0, fr, q1, q2, q3, ?_, q5, rfl⟩
      have := AVokL.set j (AVokL.evo E _ (AVokL.evo k2 _ q4)) (AVok.evo E _ (own_new (hd := hd) (m := s.mem) (h := w.heap) (nm := D) (g := g) (vv := 0) (sz := sz) (n := 0) (cs := []) (c := c) (v := .slice B 0 0) rfl))
      rw [hset] at this
      exact this)
  exact ⟨_, _, st.1, Rel.evo (k2.trans st.2) hR, AVokL.evo (k2.trans st.2) _ hG, h4, h5⟩

/-! ### rules to walk by -/
section
variable {E : Env} {Q : Exit → AState → Prop} {s : AState}
theorem an {a b : Prop} (ha : a) (hb : b) : a ∧ b := ⟨ha, hb⟩
theorem sq {K : AState → Prop} (h : K s) : ∃ s', Le s s' ∧ K s' := ⟨s, Le.refl s, h⟩
theorem aw_seq {a b : Code} (h : aw E a (thenQ (fun s => ∃ s', Le s s' ∧ aw E b Q s') Q) s) : aw E (.seq a b) Q s := h
/-- where ways meet: one state for all -/
theorem aw_cut {a b : Code} {α : Type} (J : α → AState) (h2 : ∀ x, aw E b Q (J x)) (h1 : aw E a (thenQ (fun s => ∃ x, Le s (J x)) Q) s) : aw E (.seq a b) Q s :=
  aw_mono a (fun e s q => by
    cases e <;> first | exact q | skip
    obtain ⟨x, hx⟩ := q
    exact ⟨_, hx, h2 x⟩) h1
theorem aw_loop {b : Code} {α : Type} (J : α → AState) (μ : α → Nat) (x : α) (h0 : Le s (J x)) (hr : ∀ x, aw E b (thenQ (fun s => ∃ x', μ x' < μ x ∧ Le s (J x')) Q) (J x)) : aw E (.loop b) Q s := ⟨α, J, μ, x, h0, hr⟩
theorem aw_region {id : Nat} {ops : Array Oper} {r : List Oper} (hr : ops.toList = r) (h : aops E ops (Q .normal) r s) : aw E (.region id ops false) Q s := by subst hr; exact h
theorem aw_drawn {id : Nat} {ops : Array Oper} {r : List Oper} (ho : ordOk ops = true) (hr : ops.toList = r) (h : aopsD E ops (Q .normal) r s []) : aw E (.region id ops true) Q s := by subst hr; exact ⟨ho, h⟩
theorem aw_cond {c : Operand} {x y : Code} {b : Bool} (hc : evA s.tm c = .bool b) (h1 : b = true → aw E x Q s) (h2 : b = false → aw E y Q s) : aw E (.cond c x y) Q s := by
  show condW (evA s.tm c) _ _
  rw [hc]; exact ⟨h1, h2⟩
end

/-! ### a table of types -/
inductive TT where
  | leaf (t : Nat) (i : TI)
  | node (k : Nat) (l r : TT)
def TT.get : TT → TTab
  | .leaf t i, x => cond (Nat.beq x t) (some i) none
  | .node k l r, x => cond (Nat.ble x k) (l.get x) (r.get x)
def TT.All (P : Program) : TT → Prop
  | .leaf t i => TI.Ok P t i
  | .node _ l r => l.All P ∧ r.All P
theorem TT.ok {P : Program} : ∀ T : TT, T.All P → TTok P T.get
  | .leaf t i, h, x, j, hj => by
    simp only [TT.get] at hj
    cases hb : Nat.beq x t with
    | true => rw [hb] at hj; injection hj with hj; subst hj; rw [Nat.eq_of_beq_eq_true hb]; exact h
    | false => rw [hb] at hj; cases hj
  | .node k l r, h, x, j, hj => by
    simp only [TT.get] at hj
    cases hb : Nat.ble x k with
    | true => rw [hb] at hj; exact TT.ok l h.1 x j hj
    | false => rw [hb] at hj; exact TT.ok r h.2 x j hj
end Go.AM
