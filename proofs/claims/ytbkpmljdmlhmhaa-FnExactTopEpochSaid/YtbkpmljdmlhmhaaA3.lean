/- AN ABSTRACT MACHINE, 4: what it means that a state of the machine is as an abstract state says ('HM', 'AVok'), and what may become of it ('Evo'). No condition of its own. -/
import Derived.Test.YtbkpmljdmlhmhaaA2
set_option linter.unusedVariables false
set_option linter.unusedSimpArgs false
namespace Go.AM
open Go

structure Ctx where
  w0 : World
  F0 : List Nat
  tags : List Value
def Ctx.safe (c : Ctx) (k : Nat) : Prop := k ∉ c.F0 ∧ k < c.w0.heap.size

def Ref (m : Mem) (nm g : Nat) (p : Blk → Prop) : Prop := ∃ b, m nm = some b ∧ g ≤ b.gen ∧ (g = b.gen → p b)
def CutOf (H : Value) (sz off n : Nat) (v : Value) : Prop :=
  ∃ A c, v = .slice A n c ∧ n ≤ c ∧ c ≤ maxL ∧ (0 < n → ∃ b N C, H = .slice (some ⟨b, 0, none⟩) N C ∧ A = some ⟨b, off * sz, none⟩) ∧ (off = 0 → ∃ N, H = .slice A N c)
def innB (hd : Value) (h : Heap) (i j vv : Nat) (v : Value) : Blk → Prop
  | .row _ ver sz n _ => vv ≤ ver ∧ (vv = ver → i < n ∧ j < sz ∧ ∃ b N C, hd = .slice (some ⟨b, 0, none⟩) N C ∧ cellAt h ⟨b, i * sz + j, none⟩ = some v)
  | .lent _ ver _ _ => vv ≤ ver
  | _ => True
def ptrB (hd : Value) (i off : Nat) (v : Value) : Blk → Prop
  | .row _ _ sz n _ => i < n ∧ ∃ b N C, hd = .slice (some ⟨b, 0, none⟩) N C ∧ v = .pointer (some ⟨b, i * sz + off, none⟩)
  | .lent _ _ sz n => i < n ∧ ∃ b N C, hd = .slice (some ⟨b, 0, none⟩) N C ∧ v = .pointer (some ⟨b, i * sz + off, none⟩)
  | .box _ _ _ => i = 0 ∧ ∃ b, hd = .pointer (some ⟨b, 0, none⟩) ∧ v = .pointer (some ⟨b, off, none⟩)
  | .lentB _ _ => i = 0 ∧ ∃ b, hd = .pointer (some ⟨b, 0, none⟩) ∧ v = .pointer (some ⟨b, off, none⟩)
  | _ => True
def ownB (hd : Value) (v : Value) : Blk → Prop
  | .row .. => v = hd
  | .lent .. => v = hd
  | _ => True
def cutB (hd : Value) (off n : Nat) (v : Value) : Blk → Prop
  | .row _ _ sz N _ => off + n ≤ N ∧ CutOf hd sz off n v
  | .lent _ _ sz N => off + n ≤ N ∧ CutOf hd sz off n v
  | _ => True

mutual
def AVok (c : Ctx) (hd : Nat → Value) (m : Mem) (h : Heap) : AV → Value → Prop
  | .any, v => True
  | .int k n, v => v = .int k n
  | .bool b, v => v = .bool b
  | .str s, v => v = .string s
  | .agg cs, v => ∃ vs, v = .agg vs ∧ AVokL c hd m h cs vs.toList ∧ ∀ u, u ∈ vs.toList → u.oneCell' = true
  | .tup cs, v => ∃ vs, v = .tuple vs ∧ AVokL c hd m h cs vs.toList
  | .nils, v => ∃ A, v = .slice A 0 0
  | .ro tg sz n cs, v => Rd c.w0.heap c.safe (.row sz n cs) v ∧ ∀ k, tg = some k → c.tags[k]? = some v
  | .own nm g, v => v.oneCell' = true ∧ Ref m nm g (ownB (hd nm) v)
  | .cut nm g off n, v => (∃ A C, v = .slice A n C ∧ n ≤ C ∧ C ≤ maxL) ∧ Ref m nm g (cutB (hd nm) off n v)
  | .inn nm g i j vv, v => v.oneCell' = true ∧ Ref m nm g (innB (hd nm) h i j vv v)
  | .ptr nm g i off, v => (∃ a, v = .pointer (some a)) ∧ Ref m nm g (ptrB (hd nm) i off v)
  | .rptr cs, v => ∃ a vs, v = .pointer (some a) ∧ c.safe a.block ∧ RdL c.w0.heap c.safe cs vs ∧ (∀ j u, vs[j]? = some u → cellAt c.w0.heap (a.add j) = some u) ∧ cells1 cs
  | .fn f, v => v = .func (.func f) #[] #[]
def AVokL (c : Ctx) (hd : Nat → Value) (m : Mem) (h : Heap) : List AV → List Value → Prop
  | [], vs => vs = []
  | x :: xs, vs => ∃ v us, vs = v :: us ∧ AVok c hd m h x v ∧ AVokL c hd m h xs us
end

def BlkOk (c : Ctx) (hd : Nat → Value) (m : Mem) (h : Heap) (nm : Nat) : Blk → List Nat → Prop
  | .row g v sz n cs, F => Ow h c.tags (.row sz n cs) (hd nm) F
  | .box g t cs, F => ∃ b cur e fr, hd nm = .pointer (some ⟨b, 0, none⟩) ∧ h[b]? = some (.cells cur e fr) ∧ unfr fr cur.size ∧ AVokL c hd m h cs cur.toList ∧ (∀ u, u ∈ cur.toList → u.oneCell' = true) ∧ F = [b]
  | .gone g, F => F = []
  | .lent .., F => F = []
  | .lentB .., F => F = []

structure HM (c : Ctx) (hd : Nat → Value) (fp : Nat → List Nat) (m : Mem) (w : World) (X : List Nat) : Prop where
  blk : ∀ nm b, m nm = some b → BlkOk c hd m w.heap nm b (fp nm)
  non : ∀ nm, m nm = none → fp nm = []
  nd : ∀ nm, (fp nm).Nodup
  dj : ∀ nm nm', nm ≠ nm' → ∀ k, k ∈ fp nm → k ∉ fp nm'
  xnd : X.Nodup
  xd : ∀ nm k, k ∈ fp nm → k ∉ X
  reg : ∀ nm k, k ∈ fp nm → k ∈ c.F0 ∨ c.w0.heap.size ≤ k
  xreg : ∀ k, k ∈ X → (k ∈ c.F0 ∨ c.w0.heap.size ≤ k) ∧ k < w.heap.size
  os : w.os = c.w0.os
  tape : w.tape = c.w0.tape
  output : w.output = c.w0.output
  size : c.w0.heap.size ≤ w.heap.size
  same : ∀ k, c.safe k → w.heap[k]? = c.w0.heap[k]?
  tg1 : ∀ u, u ∈ c.tags → u.oneCell' = true

theorem HM.lt {c hd fp m w X} (H : HM c hd fp m w X) {nm k : Nat} (hk : k ∈ fp nm) : k < w.heap.size := by
  cases hm : m nm with
  | none => rw [H.non nm hm] at hk; cases hk
  | some b =>
    have hb := H.blk nm b hm
    cases b with
    | row g v sz n cs => exact Ow.lt hb k hk
    | box g t cs =>
      obtain ⟨b, cur, e, fr, _, h2, _, _, _, h5⟩ := hb
      rw [h5] at hk
      rw [List.mem_singleton.1 hk]
      exact lt_of_get h2
    | gone g => rw [show fp nm = [] from hb] at hk; cases hk
    | lent g v sz n => rw [show fp nm = [] from hb] at hk; cases hk
    | lentB g t => rw [show fp nm = [] from hb] at hk; cases hk

/-! ### what may become of a state -/
def EvB (hd hd' : Value) (h h' : Heap) : Blk → Blk → Prop
  | .row g v sz n cs, .row g' v' sz' n' cs' => hd' = hd ∧ sz' = sz ∧ n' = n ∧ v ≤ v' ∧ (v = v' → ∀ b N C, hd = .slice (some ⟨b, 0, none⟩) N C → ∀ o, o < n * sz → cellAt h' ⟨b, o, none⟩ = cellAt h ⟨b, o, none⟩)
  | .row g v sz n cs, .lent g' v' sz' n' => hd' = hd ∧ sz' = sz ∧ n' = n ∧ v ≤ v'
  | .lent g v sz n, .lent g' v' sz' n' => hd' = hd ∧ sz' = sz ∧ n' = n ∧ v ≤ v'
  | .lent g v sz n, .row g' v' sz' n' cs' => hd' = hd ∧ sz' = sz ∧ n' = n ∧ v < v'
  | .box g t cs, .box g' t' cs' => hd' = hd
  | .box g t cs, .lentB g' t' => hd' = hd
  | .lentB g t, .lentB g' t' => hd' = hd
  | .lentB g t, .box g' t' cs' => hd' = hd
  | _, .gone _ => True
  | _, _ => False
def Evo (hd : Nat → Value) (m : Mem) (h : Heap) (hd' : Nat → Value) (m' : Mem) (h' : Heap) : Prop :=
  ∀ nm b, m nm = some b → ∃ b', m' nm = some b' ∧ b.gen ≤ b'.gen ∧ (b.gen = b'.gen → EvB (hd nm) (hd' nm) h h' b b')

theorem EvB.refl (hd : Value) (h : Heap) : ∀ b, EvB hd hd h h b b
  | .row .. => ⟨rfl, rfl, rfl, Nat.le_refl _, fun _ _ _ _ _ _ _ => rfl⟩
  | .box .. => rfl
  | .gone _ => trivial
  | .lent .. => ⟨rfl, rfl, rfl, Nat.le_refl _⟩
  | .lentB .. => rfl
theorem Evo.refl (hd : Nat → Value) (m : Mem) (h : Heap) : Evo hd m h hd m h := fun nm b hb => ⟨b, hb, Nat.le_refl _, fun _ => EvB.refl _ _ b⟩
theorem EvB.trans {hd hd' hd'' : Value} {h h' h'' : Heap} {a b c : Blk} (H : EvB hd hd' h h' a b) (K : EvB hd' hd'' h' h'' b c) : EvB hd hd'' h h'' a c := by
  cases a <;> cases b <;> cases c <;> simp only [EvB] at H K ⊢ <;> (try exact H.elim) <;> (try exact K.elim) <;> (try exact K.trans H)
  case row.row.row =>
    obtain ⟨h1, h2, h3, h4, h5⟩ := H
    obtain ⟨k1, k2, k3, k4, k5⟩ := K
    refine ⟨k1.trans h1, k2.trans h2, k3.trans h3, Nat.le_trans h4 k4, fun hv b N C hb o ho => ?_⟩
    have e1 := Nat.le_antisymm h4 (hv ▸ k4)
    rw [k5 (e1.symm.trans hv) b N C (h1.trans hb) o (by rw [h2, h3]; exact ho), h5 e1 b N C hb o ho]
  case row.lent.row =>
    obtain ⟨h1, h2, h3, h4⟩ := H
    obtain ⟨k1, k2, k3, k4⟩ := K
    exact ⟨k1.trans h1, k2.trans h2, k3.trans h3, by omega, fun hv => by omega⟩
  all_goals
    obtain ⟨h1, h2, h3, h4⟩ := H
    obtain ⟨k1, k2, k3, k4⟩ := K
    exact ⟨k1.trans h1, k2.trans h2, k3.trans h3, by omega⟩
theorem Evo.trans {hd m h hd' m' h' hd'' m'' h''} (H : Evo hd m h hd' m' h') (K : Evo hd' m' h' hd'' m'' h'') : Evo hd m h hd'' m'' h'' := by
  intro nm b hb
  obtain ⟨b1, e1, g1, k1⟩ := H nm b hb
  obtain ⟨b2, e2, g2, k2⟩ := K nm b1 e1
  refine ⟨b2, e2, Nat.le_trans g1 g2, fun he => ?_⟩
  have a1 : b.gen = b1.gen := Nat.le_antisymm g1 (he ▸ g2)
  exact (k1 a1).trans (k2 (a1.symm.trans he))

theorem Ref.evo {hd m h hd' m' h'} (E : Evo hd m h hd' m' h') {nm g : Nat} {p p' : Blk → Prop} (H : Ref m nm g p) (hp : ∀ b b', m nm = some b → g = b.gen → p b → EvB (hd nm) (hd' nm) h h' b b' → p' b') : Ref m' nm g p' := by
  obtain ⟨b, hb, hg, hk⟩ := H
  obtain ⟨b', e, g1, k1⟩ := E nm b hb
  refine ⟨b', e, Nat.le_trans hg g1, fun he => ?_⟩
  have a1 : g = b.gen := Nat.le_antisymm hg (he ▸ g1)
  exact hp b b' hb a1 (hk a1) (k1 (a1.symm.trans he))

theorem ownB.evo {hd hd' : Value} {h h' : Heap} {v : Value} {b b' : Blk} (H : ownB hd v b) (E : EvB hd hd' h h' b b') : ownB hd' v b' := by
  cases b <;> cases b' <;> simp only [EvB, ownB] at E H ⊢ <;> (try exact E.elim)
  all_goals exact H.trans E.1.symm
theorem cutB.evo {hd hd' : Value} {h h' : Heap} {off n : Nat} {v : Value} {b b' : Blk} (H : cutB hd off n v b) (E : EvB hd hd' h h' b b') : cutB hd' off n v b' := by
  cases b <;> cases b' <;> simp only [EvB, cutB] at E H ⊢ <;> (try exact E.elim)
  all_goals (rw [E.1, E.2.1, E.2.2.1]; exact H)
theorem ptrB.evo {hd hd' : Value} {h h' : Heap} {i off : Nat} {v : Value} {b b' : Blk} (H : ptrB hd i off v b) (E : EvB hd hd' h h' b b') : ptrB hd' i off v b' := by
  cases b <;> cases b' <;> simp only [EvB, ptrB] at E H ⊢ <;> (try exact E.elim)
  case box.box => rw [E]; exact H
  case box.lentB => rw [E]; exact H
  case lentB.box => rw [E]; exact H
  case lentB.lentB => rw [E]; exact H
  all_goals (rw [E.1, E.2.1, E.2.2.1]; exact H)
theorem mul_add_lt {i n j sz : Nat} (hi : i < n) (hj : j < sz) : i * sz + j < n * sz := by
  have h1 : (i + 1) * sz ≤ n * sz := Nat.mul_le_mul_right _ hi
  rw [Nat.succ_mul] at h1; omega
theorem innB.evo {hd hd' : Value} {h h' : Heap} {i j vv : Nat} {v : Value} {b b' : Blk} (H : innB hd h i j vv v b) (E : EvB hd hd' h h' b b') : innB hd' h' i j vv v b' := by
  cases b <;> cases b' <;> simp only [EvB, innB] at E H ⊢ <;> (try exact E.elim)
  case row.row =>
    obtain ⟨e1, e2, e3, e4, e5⟩ := E
    subst e1; subst e2; subst e3
    refine ⟨Nat.le_trans H.1 e4, fun hv => ?_⟩
    have a1 := Nat.le_antisymm H.1 (hv ▸ e4)
    obtain ⟨h1, h2, b, N, C, h3, h4⟩ := H.2 a1
    exact ⟨h1, h2, b, N, C, h3, (e5 (a1.symm.trans hv) b N C h3 _ (mul_add_lt h1 h2)).trans h4⟩
  case row.lent => exact Nat.le_trans H.1 E.2.2.2
  case lent.lent => exact Nat.le_trans H E.2.2.2
  case lent.row => exact ⟨Nat.le_of_lt (Nat.lt_of_le_of_lt H E.2.2.2), fun hv => by have := E.2.2.2; omega⟩

mutual
theorem AVok.evo {c : Ctx} {hd m h hd' m' h'} (E : Evo hd m h hd' m' h') : ∀ (x : AV) {v}, AVok c hd m h x v → AVok c hd' m' h' x v
  | .any, v, H => by simp only [AVok]
  | .int .., v, H | .bool _, v, H | .str _, v, H | .nils, v, H | .ro .., v, H | .rptr _, v, H | .fn _, v, H => by simpa only [AVok] using H
  | .agg cs, v, H => by
    simp only [AVok] at H ⊢
    obtain ⟨vs, h1, h2, h3⟩ := H
    exact ⟨vs, h1, AVokL.evo E cs h2, h3⟩
  | .tup cs, v, H => by
    simp only [AVok] at H ⊢
    obtain ⟨vs, h1, h2⟩ := H
    exact ⟨vs, h1, AVokL.evo E cs h2⟩
  | .own nm g, v, H => by simp only [AVok] at H ⊢; exact ⟨H.1, Ref.evo E H.2 (fun _ _ _ _ a b => ownB.evo a b)⟩
  | .cut nm g off n, v, H => by simp only [AVok] at H ⊢; exact ⟨H.1, Ref.evo E H.2 (fun _ _ _ _ a b => cutB.evo a b)⟩
  | .inn nm g i j vv, v, H => by simp only [AVok] at H ⊢; exact ⟨H.1, Ref.evo E H.2 (fun _ _ _ _ a b => innB.evo a b)⟩
  | .ptr nm g i off, v, H => by simp only [AVok] at H ⊢; exact ⟨H.1, Ref.evo E H.2 (fun _ _ _ _ a b => ptrB.evo a b)⟩
theorem AVokL.evo {c : Ctx} {hd m h hd' m' h'} (E : Evo hd m h hd' m' h') : ∀ (xs : List AV) {vs}, AVokL c hd m h xs vs → AVokL c hd' m' h' xs vs
  | [], vs, H => by simpa only [AVokL] using H
  | x :: xs, vs, H => by
    simp only [AVokL] at H ⊢
    obtain ⟨v, us, h1, h2, h3⟩ := H
    exact ⟨v, us, h1, AVok.evo E x h2, AVokL.evo E xs h3⟩
end

/-! ### lists of values -/
theorem AVokL.length {c hd m h} : ∀ {xs : List AV} {vs}, AVokL c hd m h xs vs → vs.length = xs.length
  | [], vs, H => by simp only [AVokL] at H; simp [H]
  | x :: xs, vs, H => by
    simp only [AVokL] at H
    obtain ⟨v, us, rfl, _, h3⟩ := H
    simp [AVokL.length h3]
theorem AVokL.get {c hd m h} : ∀ {xs : List AV} {vs} {j : Nat} {x}, AVokL c hd m h xs vs → xs[j]? = some x → ∃ v, vs[j]? = some v ∧ AVok c hd m h x v
  | [], vs, j, x, H, hj => by simp at hj
  | y :: ys, vs, j, x, H, hj => by
    simp only [AVokL] at H
    obtain ⟨v, us, rfl, h1, h2⟩ := H
    cases j with
    | zero => simp at hj; subst hj; exact ⟨v, rfl, h1⟩
    | succ j => simp at hj; simpa using AVokL.get h2 hj
theorem AVokL.drop {c hd m h} : ∀ {xs : List AV} {vs} (k : Nat), AVokL c hd m h xs vs → AVokL c hd m h (xs.drop k) (vs.drop k)
  | xs, vs, 0, H => by simpa using H
  | [], vs, k + 1, H => by simp only [AVokL] at H; subst H; simp [AVokL]
  | x :: xs, vs, k + 1, H => by
    simp only [AVokL] at H
    obtain ⟨v, us, rfl, _, h3⟩ := H
    simpa using AVokL.drop k h3
theorem AVokL.take {c hd m h} : ∀ {xs : List AV} {vs} (k : Nat), AVokL c hd m h xs vs → AVokL c hd m h (xs.take k) (vs.take k)
  | xs, vs, 0, H => by simp [AVokL]
  | [], vs, k + 1, H => by simp only [AVokL] at H; subst H; simp [AVokL]
  | x :: xs, vs, k + 1, H => by
    simp only [AVokL] at H
    obtain ⟨v, us, rfl, h2, h3⟩ := H
    simp only [List.take_succ_cons, AVokL]
    exact ⟨v, _, rfl, h2, AVokL.take k h3⟩
theorem AVokL.set {c hd m h} : ∀ {xs : List AV} {vs} (k : Nat) {x v}, AVokL c hd m h xs vs → AVok c hd m h x v → AVokL c hd m h (xs.set k x) (vs.set k v)
  | [], vs, k, x, v, H, hx => by simp only [AVokL] at H; subst H; simp [AVokL]
  | y :: ys, vs, 0, x, v, H, hx => by
    simp only [AVokL] at H
    obtain ⟨u, us, rfl, h2, h3⟩ := H
    simp only [List.set_cons_zero, AVokL]
    exact ⟨v, us, rfl, hx, h3⟩
  | y :: ys, vs, k + 1, x, v, H, hx => by
    simp only [AVokL] at H
    obtain ⟨u, us, rfl, h2, h3⟩ := H
    simp only [List.set_cons_succ, AVokL]
    exact ⟨u, _, rfl, h2, AVokL.set k h3 hx⟩
theorem AVokL.setAt {c hd m h} : ∀ {ys : List AV} {us} {xs vs} (k : Nat), AVokL c hd m h xs vs → AVokL c hd m h ys us → AVokL c hd m h (setAt xs k ys) (setAt vs k us)
  | [], us, xs, vs, k, H, hy => by simp only [AVokL] at hy; subst hy; simpa [Go.AM.setAt] using H
  | y :: ys, us, xs, vs, k, H, hy => by
    simp only [AVokL] at hy
    obtain ⟨u, ws, rfl, h2, h3⟩ := hy
    simp only [Go.AM.setAt]
    exact AVokL.setAt (k + 1) (AVokL.set k H h2) h3
theorem AVok.cells {c hd m h} {x : AV} {v : Value} (H : AVok c hd m h x v) (hx : x.known = true) : AVokL c hd m h x.cells v.cells.toList ∧ ∀ u, u ∈ v.cells.toList → u.oneCell' = true := by
  have one : ∀ {x : AV} {v : Value}, AVok c hd m h x v → v.oneCell' = true → x.cells = [x] → AVokL c hd m h x.cells v.cells.toList ∧ ∀ u, u ∈ v.cells.toList → u.oneCell' = true := by
    intro x v H h1 h2
    have : v.cells = #[v] := by cases v <;> first | rfl | (simp [Value.oneCell'] at h1)
    rw [this, h2]
    simp only [AVokL]
    exact ⟨⟨v, [], rfl, H, rfl⟩, fun u hu => by simp at hu; rw [hu]; exact h1⟩
  cases x
  case agg cs =>
    simp only [AVok] at H
    obtain ⟨vs, rfl, h2, h3⟩ := H
    exact ⟨h2, h3⟩
  case any => simp [AV.known] at hx
  case tup => simp [AV.known] at hx
  case own => exact one H (by simp only [AVok] at H; exact H.1) rfl
  case cut => exact one H (by simp only [AVok] at H; obtain ⟨⟨A, C, rfl, _⟩, _⟩ := H; rfl) rfl
  case inn => exact one H (by simp only [AVok] at H; exact H.1) rfl
  case ptr => exact one H (by simp only [AVok] at H; obtain ⟨⟨a, rfl⟩, _⟩ := H; rfl) rfl
  case ro => exact one H (by simp only [AVok, Rd] at H; obtain ⟨⟨_, A, c, vs, rfl, _⟩, _⟩ := H; rfl) rfl
  case rptr => exact one H (by simp only [AVok] at H; obtain ⟨a, vs, rfl, _⟩ := H; rfl) rfl
  case nils => exact one H (by simp only [AVok] at H; obtain ⟨A, rfl⟩ := H; rfl) rfl
  all_goals exact one H (by simp only [AVok] at H; rw [H]; rfl) rfl
theorem AVok.one {c hd m h} {x : AV} {v : Value} (H : AVok c hd m h x v) (hx : x.known = true) (ha : ∀ cs, x ≠ .agg cs) : v.oneCell' = true := by
  have := (AVok.cells H hx).2
  cases x <;> simp only [AVok] at H
  case agg cs => exact absurd rfl (ha cs)
  case any => simp [AV.known] at hx
  case tup => simp [AV.known] at hx
  case own => exact H.1
  case cut => obtain ⟨⟨A, C, rfl, _⟩, _⟩ := H; rfl
  case inn => exact H.1
  case ptr => obtain ⟨⟨a, rfl⟩, _⟩ := H; rfl
  case ro => simp only [Rd] at H; obtain ⟨⟨_, A, c, vs, rfl, _⟩, _⟩ := H; rfl
  case rptr => obtain ⟨a, vs, rfl, _⟩ := H; rfl
  case nils => obtain ⟨A, rfl⟩ := H; rfl
  all_goals (rw [H]; rfl)

/-! ### types -/
def CK.zero : CK → Value
  | .sc (.int k n) => .int k n
  | .sc (.bool b) => .bool b
  | .sc (.str s) => .string s
  | .sc _ => .bool false
  | .sl _ => .slice none 0 0
  | .pt _ => .pointer none
def TI.zeroV (i : TI) : Value := if i.kd.agg then .agg (i.sh.map CK.zero).toArray else (i.sh.map CK.zero).headD undef
def kdOf : TypeDesc → TK
  | .bool => .bool
  | .int k => .int k
  | .string => .str
  | .slice e => .slice e
  | .struct fs => .struct (fs.toList.map fun f => (f.offset, f.type))
  | .array n e => .array n e
  | .pointer e => .ptr e
  | _ => .other
structure TI.Ok (P : Program) (t : Nat) (i : TI) : Prop where
  info : (P.info? t).map (fun I => (I.size, I.bytes, I.zero)) = some (i.size, i.bytes, some i.zeroV)
  und : (P.underlying t).map kdOf = some i.kd
  len : i.sh.length = i.size
  one : i.kd.agg = false → i.size = 1
def TTok (P : Program) (τ : TTab) : Prop := ∀ t i, τ t = some i → TI.Ok P t i
section
variable {P : Program} {t : Nat} {i : TI}
theorem TI.Ok.size (H : TI.Ok P t i) (w : World) : (sizeOf t).run P w = .ok i.size w := by
  obtain ⟨I, h1, h2⟩ := Option.map_eq_some_iff.1 H.info
  simp only [Prod.mk.injEq] at h2
  simp [sizeOf, typeInfo, h1, h2.1]
theorem TI.Ok.tinfo (H : TI.Ok P t i) : ∃ I, P.info? t = some I ∧ I.size = i.size ∧ I.bytes = i.bytes ∧ I.zero = some i.zeroV := by
  obtain ⟨I, h1, h2⟩ := Option.map_eq_some_iff.1 H.info
  simp only [Prod.mk.injEq] at h2
  exact ⟨I, h1, h2.1, h2.2.1, h2.2.2⟩
theorem TI.Ok.zeroR (H : TI.Ok P t i) (w : World) : (zeroValue t).run P w = .ok i.zeroV w := by
  obtain ⟨I, h1, h2, h3, h4⟩ := H.tinfo
  simp [zeroValue, typeInfo, h1, h4]
theorem TI.Ok.undR (H : TI.Ok P t i) : ∃ d, P.underlying t = some d ∧ kdOf d = i.kd := by
  obtain ⟨d, h1, h2⟩ := Option.map_eq_some_iff.1 H.und
  exact ⟨d, h1, h2⟩
theorem TI.Ok.isAgg (H : TI.Ok P t i) (w : World) : (isAgg t).run P w = .ok i.kd.agg w := by
  obtain ⟨d, h1, h2⟩ := H.undR
  have := run_underlying h1 w
  simp only [Go.isAgg, Sem.run_bind, this, Result.andThen_ok]
  rw [← h2]
  cases d <;> rfl
theorem TI.Ok.slice {e : Nat} (H : TI.Ok P t i) (he : i.kd = .slice e) (w : World) : P.underlying t = some (.slice e) := by
  obtain ⟨d, h1, h2⟩ := H.undR
  rw [he] at h2
  cases d <;> simp [kdOf] at h2
  rw [h1, h2]
theorem TI.Ok.struct {fs : List (Nat × Nat)} (H : TI.Ok P t i) (he : i.kd = .struct fs) : ∃ fields, P.underlying t = some (.struct fields) ∧ fields.toList.map (fun f => (f.offset, f.type)) = fs := by
  obtain ⟨d, h1, h2⟩ := H.undR
  rw [he] at h2
  cases d <;> simp [kdOf] at h2
  exact ⟨_, h1, by simpa using h2⟩
end
end Go.AM
