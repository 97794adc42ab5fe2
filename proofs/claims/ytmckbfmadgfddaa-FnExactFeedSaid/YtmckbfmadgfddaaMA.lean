/- AN ABSTRACT MACHINE, 1: trees (what a value holds, with all that it leads to), and what it means that a value in memory is such a tree, owned (its blocks told) or read. No condition of its own. -/
import Derived.Calls
import Derived.Orders
import Derived.KernelRfl
import Derived.Laws.IdiomCopy
import Derived.Laws.Entries
import Derived.Laws.Slices
import Derived.Laws.BytesString
import Derived.Deep.AppendSrc
import Derived.Laws.MakeOwn
import Derived.Deep.Upon
set_option linter.unusedVariables false
set_option linter.unusedSimpArgs false
namespace Go.AM
open Go

inductive Tr where
  | int (k : IntKind) (n : Int)
  | bool (b : Bool)
  | str (s : ByteArray)
  | row (sz n : Nat) (cs : List Tr)
  | box (t : Nat) (cs : List Tr)
  | tag (k : Nat)
  | hole
  | agg (cs : List Tr)
  | tup (cs : List Tr)
  deriving Inhabited

abbrev Heap := Array Obj
def maxL : Nat := 9223372036854775807

def cellAt (h : Heap) (a : Addr) : Option Value :=
  match h[a.block]? with
  | some (.cells c _ _) => if a.spot.isSome then none else c[a.off]?
  | _ => none
theorem cell_eq (w : World) (a : Addr) : w.cell? a = cellAt w.heap a := rfl

/-- none of a block's n first cells is barred to writing -/
def unfr (fr : Nat × Nat) (n : Nat) (sz : Nat := 1) : Prop := fr.2 ≤ fr.1 ∨ (sz = 1 ∧ n ≤ fr.1)

def Tr.cellB : Tr → Bool
  | .agg _ | .tup _ => false
  | _ => true
/-- each is the content of one cell -/
def cells1 (cs : List Tr) : Prop := ∀ t, t ∈ cs → t.cellB = true

mutual
def Ow (h : Heap) (tg : List Value) : Tr → Value → List Nat → Prop
  | .int k n, v, F => v = .int k n ∧ F = []
  | .bool b, v, F => v = .bool b ∧ F = []
  | .str s, v, F => v = .string s ∧ F = []
  | .row sz n cs, v, F => (cs.length = n * sz ∧ cells1 cs) ∧ ((∃ A, v = .slice A 0 0 ∧ n = 0 ∧ F = []) ∨
      ∃ g cap cur e fr G, v = .slice (some ⟨g, 0, none⟩) n cap ∧ h[g]? = some (.cells cur e fr) ∧ unfr fr cur.size sz ∧ cur.size = cap * sz ∧ n ≤ cap ∧ cap ≤ maxL ∧ OwL h tg cs (cur.toList.take (n * sz)) G ∧ F = g :: G)
  | .box t cs, v, F => ∃ g cur e fr G, v = .pointer (some ⟨g, 0, none⟩) ∧ h[g]? = some (.cells cur e fr) ∧ unfr fr cur.size ∧ cells1 cs ∧ OwL h tg cs cur.toList G ∧ F = g :: G
  | .tag k, v, F => tg[k]? = some v ∧ F = []
  | .hole, v, F => v.oneCell' = true ∧ F = []
  | .agg cs, v, F => ∃ vs, v = .agg vs ∧ OwL h tg cs vs.toList F
  | .tup cs, v, F => ∃ vs, v = .tuple vs ∧ OwL h tg cs vs.toList F
def OwL (h : Heap) (tg : List Value) : List Tr → List Value → List Nat → Prop
  | [], vs, F => vs = [] ∧ F = []
  | t :: ts, vs, F => ∃ v us F1 F2, vs = v :: us ∧ Ow h tg t v F1 ∧ OwL h tg ts us F2 ∧ F = F1 ++ F2
end

mutual
def Rd (h : Heap) (S : Nat → Prop) : Tr → Value → Prop
  | .int k n, v => v = .int k n
  | .bool b, v => v = .bool b
  | .str s, v => v = .string s
  | .row sz n cs, v => (cs.length = n * sz ∧ cells1 cs) ∧ ∃ A c vs, v = .slice A n c ∧ n ≤ c ∧ c ≤ maxL ∧ RdL h S cs vs ∧
      (cs ≠ [] → ∃ a, A = some a ∧ S a.block ∧ ∀ j u, vs[j]? = some u → cellAt h (a.add j) = some u)
  | .agg cs, v => ∃ vs, v = .agg vs ∧ RdL h S cs vs.toList
  | _, _ => False
def RdL (h : Heap) (S : Nat → Prop) : List Tr → List Value → Prop
  | [], vs => vs = []
  | t :: ts, vs => ∃ v us, vs = v :: us ∧ Rd h S t v ∧ RdL h S ts us
end

mutual
/-- nothing but scalars and rows of such: may be read -/
def Tr.plain : Tr → Prop
  | .int .. | .bool _ | .str _ => True
  | .row _ _ cs => Tr.plainL cs
  | .agg cs => Tr.plainL cs
  | _ => False
def Tr.plainL : List Tr → Prop
  | [] => True
  | t :: ts => Tr.plain t ∧ Tr.plainL ts
end

/-! ### frames -/
mutual
theorem Ow.frame {h h' : Heap} {tg : List Value} : ∀ (t : Tr) {v F}, Ow h tg t v F → (∀ k, k ∈ F → h'[k]? = h[k]?) → Ow h' tg t v F
  | .int .., _, _, H, _ | .bool _, _, _, H, _ | .str _, _, _, H, _ | .tag _, _, _, H, _ | .hole, _, _, H, _ => by simpa only [Ow] using H
  | .row sz n cs, v, F, H, hf => by
    simp only [Ow] at H ⊢
    refine ⟨H.1, H.2.imp id ?_⟩
    rintro ⟨g, cap, cur, e, fr, G, h1, h2, h3, h4, h5, h6, h7, rfl⟩
    exact ⟨g, cap, cur, e, fr, G, h1, (hf g (by simp)).trans h2, h3, h4, h5, h6, OwL.frame cs h7 (fun k hk => hf k (by simp [hk])), rfl⟩
  | .box t cs, v, F, H, hf => by
    simp only [Ow] at H ⊢
    obtain ⟨g, cur, e, fr, G, h1, h2, h3, hc, h4, rfl⟩ := H
    exact ⟨g, cur, e, fr, G, h1, (hf g (by simp)).trans h2, h3, hc, OwL.frame cs h4 (fun k hk => hf k (by simp [hk])), rfl⟩
  | .agg cs, v, F, H, hf => by
    simp only [Ow] at H ⊢
    obtain ⟨vs, h1, h2⟩ := H
    exact ⟨vs, h1, OwL.frame cs h2 hf⟩
  | .tup cs, v, F, H, hf => by
    simp only [Ow] at H ⊢
    obtain ⟨vs, h1, h2⟩ := H
    exact ⟨vs, h1, OwL.frame cs h2 hf⟩
theorem OwL.frame {h h' : Heap} {tg : List Value} : ∀ (ts : List Tr) {vs F}, OwL h tg ts vs F → (∀ k, k ∈ F → h'[k]? = h[k]?) → OwL h' tg ts vs F
  | [], _, _, H, _ => by simpa only [OwL] using H
  | t :: ts, vs, F, H, hf => by
    simp only [OwL] at H ⊢
    obtain ⟨v, us, F1, F2, rfl, h1, h2, rfl⟩ := H
    exact ⟨v, us, F1, F2, rfl, Ow.frame t h1 (fun k hk => hf k (by simp [hk])), OwL.frame ts h2 (fun k hk => hf k (by simp [hk])), rfl⟩
end

theorem cellAt_frame {h h' : Heap} {a : Addr} (hf : h'[a.block]? = h[a.block]?) : cellAt h' a = cellAt h a := by
  unfold cellAt; rw [hf]
theorem add_block (a : Addr) (n : Nat) : (a.add n).block = a.block := by unfold Addr.add; split <;> rfl

mutual
theorem Rd.frame {h h' : Heap} {S S' : Nat → Prop} : ∀ (t : Tr) {v}, Rd h S t v → (∀ k, S k → S' k ∧ h'[k]? = h[k]?) → Rd h' S' t v
  | .int .., _, H, _ | .bool _, _, H, _ | .str _, _, H, _ => by simpa only [Rd] using H
  | .tag _, _, H, _ | .hole, _, H, _ | .box .., _, H, _ | .tup _, _, H, _ => by simp only [Rd] at H
  | .row sz n cs, v, H, hf => by
    simp only [Rd] at H ⊢
    obtain ⟨hl, A, c, vs, h1, h2, h3, h4, h5⟩ := H
    refine ⟨hl, A, c, vs, h1, h2, h3, RdL.frame cs h4 hf, fun hne => ?_⟩
    obtain ⟨a, ha, hs, hc⟩ := h5 hne
    exact ⟨a, ha, (hf _ hs).1, fun j u hj => (cellAt_frame (by rw [add_block]; exact (hf _ hs).2)).trans (hc j u hj)⟩
  | .agg cs, v, H, hf => by
    simp only [Rd] at H ⊢
    obtain ⟨vs, h1, h2⟩ := H
    exact ⟨vs, h1, RdL.frame cs h2 hf⟩
theorem RdL.frame {h h' : Heap} {S S' : Nat → Prop} : ∀ (ts : List Tr) {vs}, RdL h S ts vs → (∀ k, S k → S' k ∧ h'[k]? = h[k]?) → RdL h' S' ts vs
  | [], _, H, _ => by simpa only [RdL] using H
  | t :: ts, vs, H, hf => by
    simp only [RdL] at H ⊢
    obtain ⟨v, us, rfl, h1, h2⟩ := H
    exact ⟨v, us, rfl, Rd.frame t h1 hf, RdL.frame ts h2 hf⟩
end

/-! ### lists -/
theorem OwL.length {h tg} : ∀ {ts : List Tr} {vs F}, OwL h tg ts vs F → vs.length = ts.length
  | [], vs, F, H => by simp only [OwL] at H; simp [H.1]
  | t :: ts, vs, F, H => by
    simp only [OwL] at H
    obtain ⟨v, us, F1, F2, rfl, _, h2, _⟩ := H
    simp [OwL.length h2]
theorem RdL.length {h S} : ∀ {ts : List Tr} {vs}, RdL h S ts vs → vs.length = ts.length
  | [], vs, H => by simp only [RdL] at H; simp [H]
  | t :: ts, vs, H => by
    simp only [RdL] at H
    obtain ⟨v, us, rfl, _, h2⟩ := H
    simp [RdL.length h2]
theorem OwL.append {h tg} : ∀ {ts us : List Tr} {vs xs F G}, OwL h tg ts vs F → OwL h tg us xs G → OwL h tg (ts ++ us) (vs ++ xs) (F ++ G)
  | [], us, vs, xs, F, G, H, K => by simp only [OwL] at H; simpa [H.1, H.2] using K
  | t :: ts, us, vs, xs, F, G, H, K => by
    simp only [OwL, List.cons_append] at H ⊢
    obtain ⟨v, ws, F1, F2, rfl, h1, h2, rfl⟩ := H
    exact ⟨v, ws ++ xs, F1, F2 ++ G, rfl, h1, OwL.append h2 K, by simp⟩
/-- parted in two -/
theorem OwL.split {h tg} : ∀ {ts us : List Tr} {vs F}, OwL h tg (ts ++ us) vs F → ∃ v1 v2 F1 F2, vs = v1 ++ v2 ∧ F = F1 ++ F2 ∧ OwL h tg ts v1 F1 ∧ OwL h tg us v2 F2
  | [], us, vs, F, H => ⟨[], vs, [], F, rfl, rfl, by simp [OwL], H⟩
  | t :: ts, us, vs, F, H => by
    simp only [OwL, List.cons_append] at H
    obtain ⟨v, ws, F1, F2, rfl, h1, h2, rfl⟩ := H
    obtain ⟨v1, v2, G1, G2, rfl, rfl, k1, k2⟩ := OwL.split h2
    exact ⟨v :: v1, v2, F1 ++ G1, G2, rfl, by simp, ⟨v, v1, F1, G1, rfl, h1, k1, rfl⟩, k2⟩
theorem RdL.append {h S} : ∀ {ts us : List Tr} {vs xs}, RdL h S ts vs → RdL h S us xs → RdL h S (ts ++ us) (vs ++ xs)
  | [], us, vs, xs, H, K => by simp only [RdL] at H; simpa [H] using K
  | t :: ts, us, vs, xs, H, K => by
    simp only [RdL, List.cons_append] at H ⊢
    obtain ⟨v, ws, rfl, h1, h2⟩ := H
    exact ⟨v, ws ++ xs, rfl, h1, RdL.append h2 K⟩
theorem RdL.split {h S} : ∀ {ts us : List Tr} {vs}, RdL h S (ts ++ us) vs → ∃ v1 v2, vs = v1 ++ v2 ∧ RdL h S ts v1 ∧ RdL h S us v2
  | [], us, vs, H => ⟨[], vs, rfl, by simp [RdL], H⟩
  | t :: ts, us, vs, H => by
    simp only [RdL, List.cons_append] at H
    obtain ⟨v, ws, rfl, h1, h2⟩ := H
    obtain ⟨v1, v2, rfl, k1, k2⟩ := RdL.split h2
    exact ⟨v :: v1, v2, rfl, ⟨v, v1, rfl, h1, k1⟩, k2⟩
theorem RdL.get {h S} : ∀ {ts : List Tr} {vs} {j : Nat} {t}, RdL h S ts vs → ts[j]? = some t → ∃ v, vs[j]? = some v ∧ Rd h S t v
  | [], vs, j, t, H, hj => by simp at hj
  | t' :: ts, vs, j, t, H, hj => by
    simp only [RdL] at H
    obtain ⟨v, us, rfl, h1, h2⟩ := H
    cases j with
    | zero => simp at hj; subst hj; exact ⟨v, rfl, h1⟩
    | succ j => simp at hj; simpa using RdL.get h2 hj
theorem OwL.get {h tg} : ∀ {ts : List Tr} {vs F} {j : Nat} {t}, OwL h tg ts vs F → ts[j]? = some t → ∃ v G, vs[j]? = some v ∧ Ow h tg t v G ∧ ∀ k, k ∈ G → k ∈ F
  | [], vs, F, j, t, H, hj => by simp at hj
  | t' :: ts, vs, F, j, t, H, hj => by
    simp only [OwL] at H
    obtain ⟨v, us, F1, F2, rfl, h1, h2, rfl⟩ := H
    cases j with
    | zero => simp at hj; subst hj; exact ⟨v, F1, rfl, h1, fun k hk => by simp [hk]⟩
    | succ j =>
      simp at hj
      obtain ⟨u, G, g1, g2, g3⟩ := OwL.get h2 hj
      exact ⟨u, G, by simpa using g1, g2, fun k hk => by simp [g3 k hk]⟩

/-! ### one cell each -/
theorem Ow.oneCell {h tg} : ∀ {t : Tr} {v F}, t.cellB = true → (∀ u, u ∈ tg → u.oneCell' = true) → Ow h tg t v F → v.oneCell' = true
  | .int .., v, F, _, _, H | .bool _, v, F, _, _, H | .str _, v, F, _, _, H => by simp only [Ow] at H; rw [H.1]; rfl
  | .row .., v, F, _, _, H => by
    simp only [Ow] at H
    rcases H.2 with ⟨A, rfl, _⟩ | ⟨g, cap, cur, e, fr, G, rfl, _⟩ <;> rfl
  | .box .., v, F, _, _, H => by
    simp only [Ow] at H
    obtain ⟨g, cur, e, fr, G, rfl, _⟩ := H; rfl
  | .tag k, v, F, _, ht, H => by simp only [Ow] at H; exact ht v (List.mem_of_getElem? H.1)
  | .hole, v, F, _, _, H => by simp only [Ow] at H; exact H.1
  | .agg _, v, F, hc, _, _ | .tup _, v, F, hc, _, _ => by simp [Tr.cellB] at hc

/-- what is owned may be read -/
theorem lt_of_get {h : Heap} {k : Nat} {o : Obj} (hk : h[k]? = some o) : k < h.size := (Array.getElem?_eq_some_iff.1 hk).1
mutual
theorem Ow.lt {h tg} : ∀ {t : Tr} {v F}, Ow h tg t v F → ∀ k, k ∈ F → k < h.size
  | .int .., v, F, H | .bool _, v, F, H | .str _, v, F, H | .tag _, v, F, H | .hole, v, F, H => by simp only [Ow] at H; simp [H.2]
  | .row .., v, F, H => by
    simp only [Ow] at H
    rcases H.2 with ⟨A, _, _, rfl⟩ | ⟨g, cap, cur, e, fr, G, _, h2, _, _, _, _, h7, rfl⟩
    · simp
    · intro k hk
      rcases List.mem_cons.1 hk with rfl | hk
      · exact lt_of_get h2
      · exact OwL.lt h7 k hk
  | .box .., v, F, H => by
    simp only [Ow] at H
    obtain ⟨g, cur, e, fr, G, _, h2, _, _, h4, rfl⟩ := H
    intro k hk
    rcases List.mem_cons.1 hk with rfl | hk
    · exact lt_of_get h2
    · exact OwL.lt h4 k hk
  | .agg cs, v, F, H | .tup cs, v, F, H => by
    simp only [Ow] at H
    obtain ⟨vs, _, h2⟩ := H
    exact OwL.lt h2
theorem OwL.lt {h tg} : ∀ {ts : List Tr} {vs F}, OwL h tg ts vs F → ∀ k, k ∈ F → k < h.size
  | [], vs, F, H => by simp only [OwL] at H; simp [H.2]
  | t :: ts, vs, F, H => by
    simp only [OwL] at H
    obtain ⟨v, us, F1, F2, _, h1, h2, rfl⟩ := H
    intro k hk
    rcases List.mem_append.1 hk with hk | hk
    · exact Ow.lt h1 k hk
    · exact OwL.lt h2 k hk
end
theorem cellAt_of {h : Heap} {g : Nat} {cur : Array Value} {e : Nat} {fr : Nat × Nat} (hg : h[g]? = some (.cells cur e fr)) (j : Nat) : cellAt h ⟨g, j, none⟩ = cur[j]? := by
  unfold cellAt; simp [hg]
theorem add_zero_off (g j : Nat) : (⟨g, 0, none⟩ : Addr).add j = ⟨g, j, none⟩ := by
  unfold Addr.add; split
  · subst_vars; rfl
  · simp
theorem add_off (g i j : Nat) : (⟨g, i, none⟩ : Addr).add j = ⟨g, i + j, none⟩ := by
  unfold Addr.add; split
  · subst_vars; rfl
  · simp
mutual
theorem Ow.rd {h tg} : ∀ {t : Tr} {v F}, Ow h tg t v F → t.plain → Rd h (fun k => k ∈ F) t v
  | .int .., v, F, H, _ | .bool _, v, F, H, _ | .str _, v, F, H, _ => by simp only [Ow] at H; simp only [Rd]; exact H.1
  | .row sz n cs, v, F, H, hp => by
    simp only [Ow] at H; simp only [Rd]
    obtain ⟨hl, H⟩ := H
    simp only [Tr.plain] at hp
    rcases H with ⟨A, rfl, rfl, rfl⟩ | ⟨g, cap, cur, e, fr, G, rfl, h2, h3, h4, h5, h6, h7, rfl⟩
    · have : cs = [] := List.length_eq_zero_iff.1 (by simpa using hl.1)
      subst this
      exact ⟨hl, A, 0, [], rfl, Nat.le_refl _, by unfold maxL; omega, by simp [RdL], fun h => absurd rfl h⟩
    · refine ⟨hl, _, cap, _, rfl, h5, h6, RdL.frame cs (OwL.rd h7 hp) (fun k hk => ⟨by simp [hk], rfl⟩), fun _ => ⟨_, rfl, by simp, fun j u hj => ?_⟩⟩
      rw [add_zero_off, cellAt_of h2, ← Array.getElem?_toList]
      rw [List.getElem?_take] at hj
      split at hj
      · exact hj
      · cases hj
  | .agg cs, v, F, H, hp => by
    simp only [Ow] at H; simp only [Rd]
    obtain ⟨vs, h1, h2⟩ := H
    exact ⟨vs, h1, OwL.rd h2 (by simpa only [Tr.plain] using hp)⟩
  | .box .., v, F, H, hp | .tag _, v, F, H, hp | .hole, v, F, H, hp | .tup _, v, F, H, hp => by simp only [Tr.plain] at hp
theorem OwL.rd {h tg} : ∀ {ts : List Tr} {vs F}, OwL h tg ts vs F → Tr.plainL ts → RdL h (fun k => k ∈ F) ts vs
  | [], vs, F, H, _ => by simp only [OwL] at H; simp only [RdL]; exact H.1
  | t :: ts, vs, F, H, hp => by
    simp only [OwL] at H; simp only [RdL]
    obtain ⟨v, us, F1, F2, rfl, h1, h2, rfl⟩ := H
    simp only [Tr.plainL] at hp
    exact ⟨v, us, rfl, Rd.frame t (Ow.rd h1 hp.1) (fun k hk => ⟨by simp [hk], rfl⟩), RdL.frame ts (OwL.rd h2 hp.2) (fun k hk => ⟨by simp [hk], rfl⟩)⟩
end
end Go.AM
/- AN ABSTRACT MACHINE, 2: abstract values, blocks, states; what is handed over a call and comes back; programs of single steps over the blocks (AM), with a log of what they meet: two that meet nothing of each other's may change places. No condition of its own. -/
namespace Go.AM
open Go

inductive AV where
  | any
  | int (k : IntKind) (n : Int)
  | bool (b : Bool)
  | str (s : ByteArray)
  | agg (cs : List AV)
  | tup (cs : List AV)
  | nils
  | ro (tg : Option Nat) (sz n : Nat) (cs : List Tr)
  | own (nm g : Nat)
  | cut (nm g off n : Nat)
  | inn (nm g i j v : Nat)
  | ptr (nm g i off : Nat)
  | rptr (cs : List Tr)
  | fn (f : Nat)
  deriving Inhabited

inductive Blk where
  | row (g v sz n : Nat) (cs : List Tr)
  | box (g t : Nat) (cs : List AV)
  | gone (g : Nat)
  | lent (g v sz n : Nat)
  | lentB (g t : Nat)

abbrev Mem := Nat → Option Blk
def upd {α : Type} (f : Nat → α) (k : Nat) (x : α) : Nat → α := fun j => if j = k then x else f j
theorem upd_same {α : Type} (f : Nat → α) (k : Nat) (x : α) : upd f k x k = x := by simp [upd]
theorem upd_ne {α : Type} (f : Nat → α) {k j : Nat} (x : α) (h : j ≠ k) : upd f k x j = f j := by simp [upd, h]
theorem upd_comm {α : Type} (f : Nat → α) {k j : Nat} (x y : α) (h : j ≠ k) : upd (upd f k x) j y = upd (upd f j y) k x := by
  funext i; unfold upd; split <;> split <;> simp_all

structure AState where
  tm : Nat → AV
  mem : Mem
  gs : List AV      -- what has become of the parameters

/-- what is handed to a call -/
inductive PA where
  | ro (t : Tr)
  | own (t : Tr)
  | box (t : Nat) (cs : List PA)
  | agg (cs : List PA)
  | fn (f : Nat)
  | nils
/-- what has become of it -/
inductive PB where
  | keep
  | own (t : Tr)
  | gone
  | box (cs : List Tr)
  | agg (cs : List PB)

mutual
/-- of a result: the rows in it lead to nothing that was handed over for reading -/
def Tr.okR : Tr → Prop
  | .row _ _ cs => Tr.plainL cs
  | .agg cs => Tr.okRL cs ∧ cells1 cs
  | .tup cs | .box _ cs => Tr.okRL cs
  | _ => True
def Tr.okRL : List Tr → Prop
  | [] => True
  | t :: ts => Tr.okR t ∧ Tr.okRL ts
end
mutual
def PB.okR : PB → Prop
  | .own t => t.okR
  | .box cs => Tr.okRL cs
  | .agg ps => PB.okRL ps
  | _ => True
def PB.okRL : List PB → Prop
  | [] => True
  | p :: ps => PB.okR p ∧ PB.okRL ps
end
def Tr.isRow : Tr → Bool
  | .row .. => true
  | _ => false

mutual
def PAok (h : Heap) (S : Nat → Prop) : PA → Value → List Nat → List Value → Prop
  | .ro t, v, F, T => Rd h S t v ∧ F = [] ∧ T = if t.isRow then [v] else []
  | .own t, v, F, T => t.isRow = true ∧ Ow h [] t v F ∧ T = []
  | .box _ cs, v, F, T => ∃ g cur e fr G, v = .pointer (some ⟨g, 0, none⟩) ∧ h[g]? = some (.cells cur e fr) ∧ unfr fr cur.size ∧ PAokL h S cs cur.toList G T ∧ (∀ y, y ∈ cur.toList → y.oneCell' = true) ∧ F = g :: G
  | .agg cs, v, F, T => ∃ vs, v = .agg vs ∧ PAokL h S cs vs.toList F T ∧ ∀ y, y ∈ vs.toList → y.oneCell' = true
  | .fn f, v, F, T => v = .func (.func f) #[] #[] ∧ F = [] ∧ T = []
  | .nils, v, F, T => (∃ A, v = .slice A 0 0) ∧ F = [] ∧ T = []
def PAokL (h : Heap) (S : Nat → Prop) : List PA → List Value → List Nat → List Value → Prop
  | [], vs, F, T => vs = [] ∧ F = [] ∧ T = []
  | p :: ps, vs, F, T => ∃ v us F1 F2 T1 T2, vs = v :: us ∧ PAok h S p v F1 T1 ∧ PAokL h S ps us F2 T2 ∧ F = F1 ++ F2 ∧ T = T1 ++ T2
end
mutual
def PBok (h : Heap) (T : List Value) : PB → Value → List Nat → Prop
  | .keep, v, F => F = []
  | .own t, v, F => t.isRow = true ∧ Ow h T t v F
  | .gone, v, F => F = []
  | .box cs, v, F => ∃ g cur e fr G, v = .pointer (some ⟨g, 0, none⟩) ∧ h[g]? = some (.cells cur e fr) ∧ unfr fr cur.size ∧ cells1 cs ∧ OwL h T cs cur.toList G ∧ F = g :: G
  | .agg ps, v, F => ∃ vs, v = .agg vs ∧ PBokL h T ps vs.toList F
def PBokL (h : Heap) (T : List Value) : List PB → List Value → List Nat → Prop
  | [], vs, F => vs = [] ∧ F = []
  | p :: ps, vs, F => ∃ v us F1 F2, vs = v :: us ∧ PBok h T p v F1 ∧ PBokL h T ps us F2 ∧ F = F1 ++ F2
end

/-- From w, of which the blocks F may be turned, to w', where the blocks G are owned. -/
structure Fr (w : World) (F : List Nat) (w' : World) (G : List Nat) : Prop where
  os : w'.os = w.os
  tape : w'.tape = w.tape
  output : w'.output = w.output
  size : w.heap.size ≤ w'.heap.size
  same : ∀ k, k < w.heap.size → k ∉ F → w'.heap[k]? = w.heap[k]?
  own : ∀ k, k ∈ G → k ∈ F ∨ w.heap.size ≤ k

/-- what a call of f comes to: of a body, or of what the machine does itself -/
def CallF (P : Program) (f : Nat) (args : Array Value) (w : World) (R : Ending → World → Prop) : Prop :=
  match (callFunc f args).run P w with
  | .ok (.value v) w' => R (.returned v) w'
  | .ok (.enter g args) w' => Calls P g args w' R
  | _ => False
/-- what is known after it -/
def CallR (w : World) (vals : List Value) (F : List Nat) (T : List Value) (res : Tr) (pbs : List PB) (e : Ending) (w' : World) : Prop :=
  ∃ v F1 F2, e = .returned v ∧ Ow w'.heap T res v F1 ∧ PBokL w'.heap T pbs vals F2 ∧ (F1 ++ F2).Nodup ∧ Fr w F w' (F1 ++ F2)
/-- THE CONTRACT of a call: handed pas it answers res, and what was handed is pbs. -/
def AGood (P : Program) (f : Nat) (pas : List PA) (res : Tr) (pbs : List PB) : Prop := res.okR ∧ PB.okRL pbs ∧
  ∀ (w : World) (vals : List Value) (F : List Nat) (T : List Value), PAokL w.heap (fun k => k ∉ F ∧ k < w.heap.size) pas vals F T → F.Nodup → (∀ t, t ∈ T → t.oneCell' = true) →
    CallF P f vals.toArray w (CallR w vals F T res pbs)

/-- how slices are handed: to be read, as one's own, as one's own but nil as nil -/
inductive Hn where
  | ro
  | own
  | nil
/-! ### steps over the blocks -/
inductive AM (α : Type) where
  | ret (a : α)
  | fail
  | req (p : Prop) (k : AM α)
  | pick (k : Bool → AM α)      -- either: whichever it is
  | look (L : List Tr) (k : List Tr → AM α)      -- k L; whoever shows it may write L otherwise
  | get (nm : Nat) (k : Option Blk → AM α)
  | set (nm : Nat) (b : Blk) (k : AM α)
  | call (f : Nat) (pas : List PA) (k : Tr → List PB → AM α)
namespace AM
def bind {α β : Type} : AM α → (α → AM β) → AM β
  | .ret a, f => f a
  | .fail, _ => .fail
  | .req p k, f => .req p (k.bind f)
  | .pick k, f => .pick fun b => (k b).bind f
  | .look L k, f => .look L fun l => (k l).bind f
  | .get nm k, f => .get nm fun b => (k b).bind f
  | .set nm b k, f => .set nm b (k.bind f)
  | .call g pas k, f => .call g pas fun r pbs => (k r pbs).bind f
end AM

/-- p, at m, whatever is drawn on the way (u), may answer a, and leave m'; it met the names A, and turned W -/
def Ex (P : Program) {α : Type} : AM α → (Nat → Bool) → Mem → α → Mem → List Nat → List Nat → Prop
  | .ret a, u, m, x, m', A, W => x = a ∧ m' = m ∧ A = [] ∧ W = []
  | .fail, u, m, x, m', A, W => False
  | .req p k, u, m, x, m', A, W => p ∧ Ex P k u m x m' A W
  | .pick k, u, m, x, m', A, W => Ex P (k (u 0)) (fun i => u (i + 1)) m x m' A W
  | .look L k, u, m, x, m', A, W => Ex P (k L) u m x m' A W
  | .get nm k, u, m, x, m', A, W => ∃ B, A = nm :: B ∧ Ex P (k (m nm)) u m x m' B W
  | .set nm b k, u, m, x, m', A, W => ∃ B V, A = nm :: B ∧ W = nm :: V ∧ Ex P k u (upd m nm (some b)) x m' B V
  | .call f pas k, u, m, x, m', A, W => ∃ res pbs, AGood P f pas res pbs ∧ Ex P (k res pbs) u m x m' A W

theorem Ex.sub {P : Program} {α : Type} : ∀ (p : AM α) {u m x m' A W}, Ex P p u m x m' A W → ∀ k, k ∈ W → k ∈ A
  | .ret a, u, m, x, m', A, W, H => by simp only [Ex] at H; simp [H.2.2.2]
  | .fail, u, m, x, m', A, W, H => by simp only [Ex] at H
  | .req p k, u, m, x, m', A, W, H => by simp only [Ex] at H; exact Ex.sub k H.2
  | .pick k, u, m, x, m', A, W, H => by simp only [Ex] at H; exact Ex.sub (k (u 0)) H
  | .look L k, u, m, x, m', A, W, H => by simp only [Ex] at H; exact Ex.sub (k L) H
  | .get nm k, u, m, x, m', A, W, H => by
    simp only [Ex] at H
    obtain ⟨B, rfl, H⟩ := H
    intro j hj; exact List.mem_cons_of_mem _ (Ex.sub (k (m nm)) H j hj)
  | .set nm b k, u, m, x, m', A, W, H => by
    simp only [Ex] at H
    obtain ⟨B, V, rfl, rfl, H⟩ := H
    intro j hj
    rcases List.mem_cons.1 hj with rfl | hj
    · simp
    · exact List.mem_cons_of_mem _ (Ex.sub k H j hj)
  | .call f pas k, u, m, x, m', A, W, H => by
    simp only [Ex] at H
    obtain ⟨res, pbs, _, H⟩ := H
    exact Ex.sub (k res pbs) H
/-- what isn't turned stays -/
theorem Ex.stays {P : Program} {α : Type} : ∀ (p : AM α) {u m x m' A W}, Ex P p u m x m' A W → ∀ k, k ∉ W → m' k = m k
  | .ret a, u, m, x, m', A, W, H => by simp only [Ex] at H; simp [H.2.1]
  | .fail, u, m, x, m', A, W, H => by simp only [Ex] at H
  | .req p k, u, m, x, m', A, W, H => by simp only [Ex] at H; exact Ex.stays k H.2
  | .pick k, u, m, x, m', A, W, H => by simp only [Ex] at H; exact Ex.stays (k (u 0)) H
  | .look L k, u, m, x, m', A, W, H => by simp only [Ex] at H; exact Ex.stays (k L) H
  | .get nm k, u, m, x, m', A, W, H => by
    simp only [Ex] at H
    obtain ⟨B, rfl, H⟩ := H
    exact Ex.stays (k (m nm)) H
  | .set nm b k, u, m, x, m', A, W, H => by
    simp only [Ex] at H
    obtain ⟨B, V, rfl, rfl, H⟩ := H
    intro j hj
    rw [Ex.stays k H j (fun h => hj (List.mem_cons_of_mem _ h)), upd_ne _ _ (fun h => hj (by simp [h]))]
  | .call f pas k, u, m, x, m', A, W, H => by
    simp only [Ex] at H
    obtain ⟨res, pbs, _, H⟩ := H
    exact Ex.stays (k res pbs) H
def over (m : Mem) (W : List Nat) (m' : Mem) : Mem := fun k => if k ∈ W then m' k else m k
/-- it sees of the blocks what it meets alone -/
theorem Ex.local_ {P : Program} {α : Type} : ∀ (p : AM α) {u m x m' A W}, Ex P p u m x m' A W → ∀ n : Mem, (∀ k, k ∈ A → n k = m k) → Ex P p u n x (over n W m') A W
  | .ret a, u, m, x, m', A, W, H, n, hn => by
    simp only [Ex] at H ⊢
    obtain ⟨rfl, rfl, rfl, rfl⟩ := H
    exact ⟨rfl, by funext k; simp [over], rfl, rfl⟩
  | .fail, u, m, x, m', A, W, H, n, hn => by simp only [Ex] at H
  | .req p k, u, m, x, m', A, W, H, n, hn => by simp only [Ex] at H ⊢; exact ⟨H.1, Ex.local_ k H.2 n hn⟩
  | .pick k, u, m, x, m', A, W, H, n, hn => by simp only [Ex] at H ⊢; exact Ex.local_ (k (u 0)) H n hn
  | .look L k, u, m, x, m', A, W, H, n, hn => by simp only [Ex] at H ⊢; exact Ex.local_ (k L) H n hn
  | .get nm k, u, m, x, m', A, W, H, n, hn => by
    simp only [Ex] at H ⊢
    obtain ⟨B, rfl, H⟩ := H
    refine ⟨B, rfl, ?_⟩
    rw [hn nm (by simp)]
    exact Ex.local_ (k (m nm)) H n (fun j hj => hn j (by simp [hj]))
  | .set nm b k, u, m, x, m', A, W, H, n, hn => by
    simp only [Ex] at H ⊢
    obtain ⟨B, V, rfl, rfl, H⟩ := H
    refine ⟨B, V, rfl, rfl, ?_⟩
    have h1 := Ex.local_ k H (upd n nm (some b)) (fun j hj => by
      unfold upd; split
      · rfl
      · exact hn j (by simp [hj]))
    have h2 : over (upd n nm (some b)) V m' = over n (nm :: V) m' := by
      funext j
      unfold over
      by_cases hv : j ∈ V
      · simp [hv]
      · by_cases hj : j = nm
        · subst hj
          simp only [hv, if_false, List.mem_cons, true_or, if_true, upd_same]
          rw [Ex.stays k H j hv, upd_same]
        · simp [hv, hj, upd_ne]
    rw [← h2]; exact h1
  | .call f pas k, u, m, x, m', A, W, H, n, hn => by
    simp only [Ex] at H ⊢
    obtain ⟨res, pbs, hg, H⟩ := H
    exact ⟨res, pbs, hg, Ex.local_ (k res pbs) H n hn⟩
/-- two that turn nothing of what the other meets change places -/
theorem Ex.swap {P : Program} {α β : Type} {p : AM α} {q : AM β} {u u' m x m1 A W y m2 B V} (h1 : Ex P p u m x m1 A W) (h2 : Ex P q u' m1 y m2 B V)
    (hw : ∀ k, k ∈ W → k ∉ B) (hv : ∀ k, k ∈ V → k ∉ A) : Ex P q u' m y (over m V m2) B V ∧ Ex P p u (over m V m2) x m2 A W := by
  have q1 := Ex.local_ q h2 m (fun k hk => (Ex.stays p h1 k (fun h => hw k h hk)).symm)
  have p1 := Ex.local_ p h1 (over m V m2) (fun k hk => by unfold over; rw [if_neg (fun h => hv k h hk)])
  refine ⟨q1, ?_⟩
  have : over (over m V m2) W m1 = m2 := by
    funext k
    unfold over
    by_cases hk : k ∈ W
    · rw [if_pos hk, Ex.stays q h2 k (fun h => hw k hk (Ex.sub q h2 k h))]
    · rw [if_neg hk]
      by_cases hk2 : k ∈ V
      · rw [if_pos hk2]
      · rw [if_neg hk2, Ex.stays q h2 k hk2, Ex.stays p h1 k hk]
  rwa [this] at p1
end Go.AM
/- AN ABSTRACT MACHINE, 3: what each operation does to abstract values and blocks; code; what is to be shown of a function's body ('aw'). No condition of its own. -/
namespace Go.AM
open Go

/-! ### types, as far as the machine asks of them -/
inductive CK where
  | sc (z : Tr)
  | sl (sz : Nat)
  | pt (t : Nat)
inductive TK where
  | bool | int (k : IntKind) | str | slice (e : Nat) | struct (fs : List (Nat × Nat)) | array (n e : Nat) | ptr (e : Nat) | other
structure TI where
  kd : TK
  size : Nat
  bytes : Nat
  sh : List CK
def TK.agg : TK → Bool
  | .struct _ | .array .. => true
  | _ => false
abbrev TTab := Nat → Option TI
/-- the shape of a slice type's elements: cells, bytes -/
def elemOf (τ : TTab) (t : Nat) : Option TI :=
  match τ t with
  | some { kd := .slice e, .. } => τ e
  | _ => none
def Tr.av : Tr → AV
  | .int k n => .int k n
  | .bool b => .bool b
  | .str s => .str s
  | .row sz n cs => .ro none sz n cs
  | _ => .any
def CK.av : CK → AV
  | .sc (.int k n) => .int k n
  | .sc (.bool b) => .bool b
  | .sc (.str s) => .str s
  | .sc _ => .any
  | .sl _ => .nils
  | .pt _ => .any
def CK.tr : CK → Tr
  | .sc (.int k n) => .int k n
  | .sc (.bool b) => .bool b
  | .sc (.str s) => .str s
  | .sc _ => .bool false
  | .sl sz => .row sz 0 []
  | .pt _ => .hole

def cst : Value → AV
  | .int k n => .int k n
  | .bool b => .bool b
  | .string s => .str s
  | .slice none 0 0 => .nils
  | _ => .any
def evA (tm : Nat → AV) : Operand → AV
  | .tmp t => tm t
  | .const v => cst v
  | .func f => .fn f
  | .global _ => .any
/-- a value whose cells are told -/
def AV.known : AV → Bool
  | .any | .tup _ => false
  | _ => true
def AV.cells : AV → List AV
  | .agg cs => cs
  | v => [v]

/-! ### elements of a row: sz cells each -/
def el (cs : List Tr) (sz i : Nat) : List Tr := (cs.drop (i * sz)).take sz
def upEl (cs : List Tr) (sz i : Nat) (L : List Tr) : List Tr := cs.take (i * sz) ++ L ++ cs.drop (i * sz + sz)
def setAt {α : Type} : List α → Nat → List α → List α
  | cs, _, [] => cs
  | cs, i, x :: xs => setAt (cs.set i x) (i + 1) xs
def Blk.gen : Blk → Nat
  | .row g .. | .box g .. | .gone g | .lent g .. | .lentB g _ => g

def Tr.isSc : Tr → Bool
  | .int .. | .bool _ | .str _ => true
  | _ => false
/-- scalars alone -/
def scal (cs : List Tr) : Prop := ∀ t, t ∈ cs → t.isSc = true

/-! ### small steps -/
namespace AM
def getRow {α : Type} (nm g sz : Nat) (k : Nat → Nat → List Tr → AM α) : AM α :=
  .get nm fun
    | some (.row g' v sz' n cs) => if g' = g ∧ sz' = sz then k v n cs else .fail
    | _ => .fail
def getBox {α : Type} (nm g : Nat) (k : Nat → List AV → AM α) : AM α :=
  .get nm fun
    | some (.box g' t cs) => if g' = g then k t cs else .fail
    | _ => .fail
/-- a new block of the name nm -/
def mk {α : Type} (nm : Nat) (b : Nat → Blk) (k : Nat → AM α) : AM α :=
  .get nm fun
    | none => .set nm (b 0) (k 0)
    | some o => .set nm (b (o.gen + 1)) (k (o.gen + 1))
/-- the row in place j of element i -/
def getInn {α : Type} (nm g i j v sz : Nat) (k : Nat → Nat → Nat → List Tr → List Tr → Nat → List Tr → AM α) : AM α :=
  .get nm fun
    | some (.row g' v' sz' n cs) => if g' = g ∧ v' = v then .look (el cs sz' i) fun L => match L[j]? with
        | some (.row s2 n2 cs2) => if s2 = sz then k sz' n v' cs L n2 cs2 else .fail
        | _ => .fail
      else .fail
    | _ => .fail
/-- what a slice holds -/
def rdRow {α : Type} (sz : Nat) (x : AV) (k : Nat → List Tr → AM α) : AM α :=
  match x with
  | .nils => k 0 []
  | .ro _ sz' n cs => if sz' = sz then k n cs else .fail
  | .own nm g => getRow nm g sz fun _ n cs => k n cs
  | .cut nm g off n => getRow nm g sz fun _ _ cs => .look ((cs.drop (off * sz)).take (n * sz)) fun L => k n L
  | .inn nm g i j v => getInn nm g i j v sz fun _ _ _ _ _ n2 cs2 => k n2 cs2
  | _ => .fail
/-- of a row that came in no more is to be shown -/
def AV.isRo : AV → Bool
  | .ro .. | .nils => true
  | _ => false
/-- an element's row goes out of its place -/
def takeInn {α : Type} (nm g i j v sz : Nat) (k : Nat → List Tr → AM α) : AM α :=
  getInn nm g i j v sz fun sz' n v' cs L n2 cs2 => .set nm (.row g v' sz' n (upEl cs sz' i (L.set j .hole))) (k n2 cs2)
/-- a cell's value, as a tree of its own: what it owned is its no more -/
def toT {α : Type} (c : CK) (x : AV) (k : Tr → AM α) : AM α :=
  match c, x with
  | .sc _, .int kd n => k (.int kd n)
  | .sc _, .bool b => k (.bool b)
  | .sc _, .str s => k (.str s)
  | .sl sz, .nils => k (.row sz 0 [])
  | .sl sz, .own nm g => getRow nm g sz fun _ n cs => .set nm (.gone g) (k (.row sz n cs))
  | .sl _, .ro (some tg) _ _ _ => k (.tag tg)
  | .sl _, .ro none _ _ _ => k .hole
  | .sl sz, .inn nm g i j v => takeInn nm g i j v sz fun n cs => k (.row sz n cs)
  | _, _ => .fail
def toTL {α : Type} : List CK → List AV → (List Tr → AM α) → AM α
  | [], [], k => k []
  | c :: cs, x :: xs, k => toT c x fun t => toTL cs xs fun ts => k (t :: ts)
  | _, _, _ => .fail
/-! ### calls -/
inductive Bk where
  | none
  | nil
  | row (nm g v sz n : Nat)
  | inn (nm g i j v sz n : Nat)
  | box (nm g t : Nat) (os : List AV)
  | agg (bs : List Bk)
def hnd {α : Type} (how : Hn) (c : CK) (x : AV) (k : PA → Bk → List AV → AM α) : AM α :=
  match c, x with
  | .sc _, .int kd n => k (.ro (.int kd n)) .none []
  | .sc _, .bool b => k (.ro (.bool b)) .none []
  | .sc _, .str s => k (.ro (.str s)) .none []
  | .sl sz, x => match how, x with
    | .ro, x => rdRow sz x fun n cs => if AV.isRo x then k (.ro (.row sz n cs)) .none [x] else .req (Tr.plainL cs) (k (.ro (.row sz n cs)) .none [x])
    | .nil, .nils => k .nils .none []
    | _, .own nm g => getRow nm g sz fun v n cs => .req (Tr.plainL cs) (.set nm (.lent g v sz n) (k (.own (.row sz n cs)) (.row nm g v sz n) []))
    | _, .inn nm g i j v => takeInn nm g i j v sz fun n cs => .req (Tr.plainL cs) (k (.own (.row sz n cs)) (.inn nm g i j v sz n) [])
    | _, .nils => k (.own (.row sz 0 [])) .nil []
    | _, x => rdRow sz x fun n cs => if AV.isRo x then k (.ro (.row sz n cs)) .none [x] else .req (Tr.plainL cs) (k (.ro (.row sz n cs)) .none [x])
  | _, _ => .fail
def hndL {α : Type} (how : Hn) : List CK → List AV → (List PA → List Bk → List AV → AM α) → AM α
  | [], [], k => k [] [] []
  | c :: cs, x :: xs, k => hnd how c x fun p b l => hndL how cs xs fun ps bs l2 => k (p :: ps) (b :: bs) (l ++ l2)
  | _, _, _ => .fail
/-- an argument of type t -/
def hndA {α : Type} (τ : TTab) (how : Hn) (t : Nat) (x : AV) (k : PA → Bk → List AV → AM α) : AM α :=
  match x with
  | .fn f => k (.fn f) .none []
  | .agg xs => match τ t with
    | some i => if i.kd.agg then hndL how i.sh xs fun ps bs l => k (.agg ps) (.agg bs) l else .fail
    | none => .fail
  | .ptr nm g 0 0 => getBox nm g fun e cs => match τ e with
    | some j => .set nm (.lentB g e) (hndL .own j.sh cs fun ps bs l => k (.box e ps) (.box nm g e cs) l)
    | none => .fail
  | x => match τ t with
    | some { kd := kd, sh := [c], .. } => if kd.agg then .fail else hnd how c x k
    | _ => .fail
def hndAL {α : Type} (τ : TTab) : List Hn → List Nat → List AV → (List PA → List Bk → List AV → AM α) → AM α
  | _, [], [], k => k [] [] []
  | ms, t :: ts, x :: xs, k => hndA τ (ms.headD .ro) t x fun p b l => hndAL τ ms.tail ts xs fun ps bs l2 => k (p :: ps) (b :: bs) (l ++ l2)
  | _, _, _, _ => .fail
def AV.nm : AV → Option Nat
  | .own nm _ | .cut nm _ _ _ | .inn nm _ _ _ _ => some nm
  | _ => none
def AV.isInn : AV → Bool
  | .inn .. => true
  | _ => false
def Bk.inn1 : Bk → Bool
  | .inn .. => true
  | .box _ _ _ os => os.any AV.isInn
  | _ => false
def Bk.isInn : Bk → Bool
  | .agg bs => bs.any Bk.inn1
  | b => b.inn1
/-- what is read by a call is none of what it may write -/
def chk {α : Type} (bs : List Bk) : List AV → AM α → AM α
  | [], k => k
  | x :: xs, k => match AV.nm x with
    | none => chk bs xs k
    | some nm => .get nm fun
      | some (.row ..) => if bs.any Bk.isInn = true then .fail else chk bs xs k
      | _ => .fail
/-- a tree that a call left, as a value: what it owns gets a name (D, D + 1, ..; or that which the place had) -/
def exT {α : Type} (tgs : List AV) (D j : Nat) (old : AV) (t : Tr) (k : Nat → AV → AM α) : AM α :=
  match t with
  | .int kd n => k j (.int kd n)
  | .bool b => k j (.bool b)
  | .str s => k j (.str s)
  | .row sz n cs => match old with
    | .own nm g => .get nm fun
      | some (.lent g' _ _ _) => if g' = g then .set nm (.row (g + 1) 0 sz n cs) (k j (.own nm (g + 1))) else .fail
      | _ => .fail
    | _ => mk (D + j) (fun g => .row g 0 sz n cs) fun g => k (j + 1) (.own (D + j) g)
  | .tag i => k j (tgs.getD i .any)
  | _ => k j .any
def exTL {α : Type} (tgs : List AV) (D : Nat) : Nat → List AV → List Tr → (Nat → List AV → AM α) → AM α
  | j, _, [], k => k j []
  | j, os, t :: ts, k => exT tgs D j (os.headD .any) t fun j x => exTL tgs D j os.tail ts fun j xs => k j (x :: xs)
/-- a result: a struct, too, and a pointer to one -/
def exR {α : Type} (tgs : List AV) (D j : Nat) (t : Tr) (k : Nat → AV → AM α) : AM α :=
  match t with
  | .agg cs => exTL tgs D j [] cs fun j xs => k j (.agg xs)
  | .box t cs => exTL tgs D (j + 1) [] cs fun j2 xs => mk (D + j) (fun g => .box g t xs) fun g => k j2 (.ptr (D + j) g 0 0)
  | t => exT tgs D j .any t k
def exRL {α : Type} (tgs : List AV) (D : Nat) : Nat → List Tr → (Nat → List AV → AM α) → AM α
  | j, [], k => k j []
  | j, t :: ts, k => exR tgs D j t fun j x => exRL tgs D j ts fun j xs => k j (x :: xs)
def exRes {α : Type} (tgs : List AV) (D j : Nat) (t : Tr) (k : Nat → AV → AM α) : AM α :=
  match t with
  | .tup ts => exRL tgs D j ts fun j xs => k j (.tup xs)
  | t => exR tgs D j t k
def bk1 {α : Type} (b : Bk) (p : PB) (k : AM α) : AM α :=
  match b, p with
  | .row nm g v sz n, .own (.row sz' n' cs) => .get nm fun
      | some (.lent g' v' sz2 n2) => if g' = g ∧ v' = v ∧ sz2 = sz ∧ sz' = sz then .req (n2 = n ∧ n' = n) (.set nm (.row g (v + 1) sz n cs) k) else .fail
      | _ => .fail
  | .nil, _ => k
  | .inn nm g i j v sz n, .own (.row sz' n' cs2) => .get nm fun
      | some (.row g' v' szr nr cs) => if g' = g ∧ v' = v ∧ sz' = sz then .req (n' = n) (.look (el cs szr i) fun L => match L[j]? with
          | some .hole => .set nm (.row g' (v' + 1) szr nr (upEl cs szr i (L.set j (.row sz' n' cs2)))) k
          | _ => .fail)
        else .fail
      | _ => .fail
  | .row nm g v sz n, .gone => .get nm fun
      | some (.lent g' _ _ _) => if g' = g then .set nm (.gone g) k else .fail
      | _ => .fail
  | .none, .keep => k
  | _, _ => .fail
def bk1L {α : Type} : List Bk → List PB → AM α → AM α
  | [], [], k => k
  | b :: bs, p :: ps, k => bk1 b p (bk1L bs ps k)
  | _, _, _ => .fail
def bkA {α : Type} (tgs : List AV) (D j : Nat) (b : Bk) (p : PB) (k : Nat → AM α) : AM α :=
  match b, p with
  | .box nm g t os, .box ts => exTL tgs D j os ts fun j xs => .get nm fun
      | some (.lentB g' t') => if g' = g ∧ t' = t then .set nm (.box g t xs) (k j) else .fail
      | _ => .fail
  | .agg bs, .agg ps => bk1L bs ps (k j)
  | .agg bs, .keep => k j
  | b, p => bk1 b p (k j)
def bkAL {α : Type} (tgs : List AV) (D : Nat) : Nat → List Bk → List PB → (Nat → AM α) → AM α
  | j, [], [], k => k j
  | j, b :: bs, p :: ps, k => bkA tgs D j b p fun j => bkAL tgs D j bs ps k
  | _, _, _, _ => .fail

/-! ### pure operations -/
def byteTr : Tr → UInt8
  | .int _ n => UInt8.ofNat n.toNat
  | _ => 0
def bitsI (op : BinOp) (k : IntKind) (x y : Int) : Option Int :=
  let a := BitVec.ofInt k.bits x
  let b := BitVec.ofInt k.bits y
  match op with
  | .and => some (k.wrap (a &&& b).toNat)
  | .or => some (k.wrap (a ||| b).toNat)
  | .xor => some (k.wrap (a ^^^ b).toNat)
  | .andNot => some (k.wrap (a &&& ~~~b).toNat)
  | _ => none
def binI (op : BinOp) (k : IntKind) (a b : Int) : AM AV :=
  match op with
  | .add => .ret (.int k (k.wrap (a + b)))
  | .sub => .ret (.int k (k.wrap (a - b)))
  | .mul => .ret (.int k (k.wrap (a * b)))
  | .quo => .req (b ≠ 0) (.ret (.int k (k.wrap (a.tdiv b))))
  | .rem => .req (b ≠ 0) (.ret (.int k (a.tmod b)))
  | .eql => .ret (.bool (a == b))
  | .neq => .ret (.bool (a != b))
  | .lss => .ret (.bool (a < b))
  | .leq => .ret (.bool (a ≤ b))
  | .gtr => .ret (.bool (a > b))
  | .geq => .ret (.bool (a ≥ b))
  | .shl => .req (0 ≤ b) (.ret (.int k (k.wrap (a * 2 ^ (min b.toNat k.bits)))))
  | .shr => .req (0 ≤ b) (.ret (.int k (a.fdiv (2 ^ (min b.toNat k.bits)))))
  | op => match bitsI op k a b with
    | some r => .ret (.int k r)
    | none => .fail
def binS (op : BinOp) (x y : ByteArray) : AM AV :=
  match op with
  | .add => .req (((x.size + y.size : Nat) : Int) ≤ IntKind.i64.max) (.ret (.str (x ++ y)))
  | .eql => .ret (.bool (x.toList == y.toList))
  | .neq => .ret (.bool (!(x.toList == y.toList)))
  | .lss => .ret (.bool (Op.bytesLess x.toList y.toList))
  | .leq => .ret (.bool (Op.bytesLess x.toList y.toList || x.toList == y.toList))
  | .gtr => .ret (.bool (!(Op.bytesLess x.toList y.toList || x.toList == y.toList)))
  | .geq => .ret (.bool (!Op.bytesLess x.toList y.toList))
  | _ => .fail
/-- a slice beside nil -/
def nilA (x : AV) (k : Bool → AV) : AM AV :=
  match x with
  | .nils => .pick fun b => .ret (k b)
  | .ro _ _ _ cs => match cs with
    | [] => .pick fun b => .ret (k b)
    | _ :: _ => .ret (k false)
  | .own nm g => .get nm fun
    | some (.row g' _ _ _ cs) => if g' = g then (match cs with
      | [] => .pick fun b => .ret (k b)
      | _ :: _ => .ret (k false)) else .fail
    | _ => .fail
  | _ => .fail
def nilCmp (τ : TTab) (op : BinOp) (t : Nat) (x : AV) : AM AV :=
  match τ t with
  | some { kd := .slice _, .. } => match op with
    | .eql => nilA x fun b => .bool b
    | .neq => nilA x fun b => .bool (!b)
    | _ => .fail
  | _ => .fail
def isNilC : Value → Bool
  | .slice none 0 0 => true
  | _ => false
def nilOp : Op → Bool
  | .binOp _ _ _ (.const v) _ => isNilC v
  | _ => false
def bin (τ : TTab) (t : Nat) (op : BinOp) (x y : AV) : AM AV :=
  match x, y with
  | .bool a, .bool b => match τ t with
    | some { kd := .bool, .. } => match op with
      | .eql => .ret (.bool (a == b))
      | .neq => .ret (.bool (!(a == b)))
      | _ => .fail
    | _ => .fail
  | .int k a, .int k' b => match op with
    | .shl => binI .shl k a b
    | .shr => binI .shr k a b
    | op => if k = k' then binI op k a b else .fail
  | .str a, .str b => binS op a b
  | _, _ => .fail
def una (op : UnOp) (x : AV) : AM AV :=
  match op, x with
  | .not, .bool b => .ret (.bool (!b))
  | .neg, .int k n => .ret (.int k (k.wrap (0 - n)))
  | .xor, .int k n => match bitsI .xor k (if k.signed then -1 else k.max) n with
    | some r => .ret (.int k r)
    | none => .fail
  | _, _ => .fail
def conv (τ : TTab) (src dst : Nat) (x : AV) (D : Nat) : AM AV :=
  match τ src, τ dst with
  | some sI, some d => match d.kd, x with
    | .int k, .int _ n => .ret (.int k (k.wrap n))
    | .str, .str s => .ret (.str s)
    | .str, x => match sI.kd with
      | .slice e => match τ e with
        | some { kd := .int .u8, .. } => rdRow 1 x fun n cs => .req (∃ l : List Int, cs = l.map (Tr.int .u8)) (.ret (.str ⟨(cs.map byteTr).toArray⟩))
        | _ => .fail
      | _ => .fail
    | .slice e, .str s => match sI.kd, τ e with
      | .str, some { kd := .int .u8, .. } => .req (s.size ≤ maxL) (.look (s.data.toList.map fun b => Tr.int .u8 b.toNat) fun L => mk D (fun g => .row g 0 1 s.size L) fun g => .ret (.own D g))
      | _, _ => .fail
    | _, _ => .fail
  | _, _ => .fail
/-- n cells from off on -/
def part (τ : TTab) (t : Nat) (cs : List AV) (off : Nat) : AM AV :=
  match τ t with
  | some i => if i.kd.agg then .ret (.agg ((cs.drop off).take i.size)) else match cs[off]? with
    | some x => .ret x
    | none => .fail
  | none => .fail
def elAV (nm g v i j : Nat) : Tr → AV
  | .row .. => .inn nm g i j v
  | .int k n => .int k n
  | .bool b => .bool b
  | .str s => .str s
  | _ => .any
def elAVs (nm g v i : Nat) : Nat → List Tr → List AV
  | _, [] => []
  | j, t :: ts => elAV nm g v i j t :: elAVs nm g v i (j + 1) ts
def one (agg : Bool) (xs : List AV) : AM AV :=
  match agg with
  | true => .ret (.agg xs)
  | false => match xs with
    | [x] => .ret x
    | _ => .fail
def loadA (τ : TTab) (t : Nat) (x : AV) : AM AV :=
  match τ t with
  | none => .fail
  | some ti => match x with
    | .ptr nm g i off => .get nm fun
      | some (.box g' _ cs) => if g' = g ∧ i = 0 ∧ off + ti.size ≤ cs.length then one ti.kd.agg ((cs.drop off).take ti.size) else .fail
      | some (.row g' v sz n cs) => if g' = g ∧ off + ti.size ≤ sz then .look (el cs sz i) fun L => one ti.kd.agg (elAVs nm g v i off ((L.drop off).take ti.size)) else .fail
      | _ => .fail
    | .rptr cs => .look cs fun L => if ti.size ≤ L.length then one ti.kd.agg ((L.take ti.size).map Tr.av) else .fail
    | _ => .fail
def storeA (τ : TTab) (t : Nat) (x y : AV) : AM AV :=
  match τ t with
  | none => .fail
  | some ti => match x with
    | .ptr nm g i off => .get nm fun
      | some (.box g' bt cs) => if g' = g ∧ i = 0 ∧ y.known = true ∧ y.cells.length = ti.size ∧ off + ti.size ≤ cs.length then .set nm (.box g' bt (setAt cs off y.cells)) (.ret .any) else .fail
      | some (.row ..) => if y.known = false then .fail else toTL ti.sh y.cells fun ts => .get nm fun
          | some (.row g2 v2 sz2 n2 cs2) => if g2 = g ∧ off + ti.size ≤ sz2 then .look (el cs2 sz2 i) fun L => .look (upEl cs2 sz2 i (setAt L off ts)) fun cs3 => .set nm (.row g2 (v2 + 1) sz2 n2 cs3) (.ret .any) else .fail
          | _ => .fail
      | _ => .fail
    | _ => .fail
def fieldPtr (τ : TTab) (t : Nat) (x : AV) (f : Nat) : AM AV :=
  match τ t with
  | some { kd := .struct fs, .. } => match fs[f]? with
    | some (o, ft) => match τ ft with
      | some fi => if 0 < fi.size then (match x with
        | .ptr nm g i off => .ret (.ptr nm g i (off + o))
        | .rptr cs => .ret (.rptr (cs.drop o))
        | _ => .fail) else .fail
      | none => .fail
    | none => .fail
  | _ => .fail
def fieldVal (τ : TTab) (t : Nat) (x : AV) (f : Nat) : AM AV :=
  match τ t with
  | some { kd := .struct fs, .. } => match fs[f]?, x with
    | some (o, ft), .agg cs => part τ ft cs o
    | _, _ => .fail
  | _ => .fail
def indexPtr (τ : TTab) (t : Nat) (x ix : AV) : AM AV :=
  match τ t, ix with
  | some { kd := .slice e, .. }, .int _ i => match τ e with
    | some ei => match x with
      | .ro _ sz n cs => if sz = ei.size ∧ 0 < sz then .req (0 ≤ i ∧ i < (n : Int)) (.look (el cs sz i.toNat) fun L => .ret (.rptr L)) else .fail
      | .own nm g => getRow nm g ei.size fun _ n _ => .req (0 ≤ i ∧ i < (n : Int)) (.ret (.ptr nm g i.toNat 0))
      | .cut nm g off n => getRow nm g ei.size fun _ _ _ => .req (0 ≤ i ∧ i < (n : Int)) (.ret (.ptr nm g (off + i.toNat) 0))
      | _ => .fail
    | none => .fail
  | _, _ => .fail
def strAt (s : ByteArray) (i : Nat) : Int := ((s.data.toList.getD i 0).toNat : Int)
def indexVal (τ : TTab) (t : Nat) (x ix : AV) : AM AV :=
  match x, ix with
  | .str s, .int _ i => match τ t with
    | some { kd := .str, .. } => .req (0 ≤ i ∧ i < (s.size : Int)) (.ret (.int .u8 (strAt s i.toNat)))
    | _ => .fail
  | _, _ => .fail
def oint : Option AV → Int → Option Int
  | none, d => some d
  | some (.int _ n), _ => some n
  | _, _ => none
def sliceVal (τ : TTab) (t : Nat) (x : AV) (lo hi mx : Option AV) : AM AV :=
  match mx with
  | some _ => .fail
  | none => match x with
    | .str s => match τ t with
      | some { kd := .str, .. } => match oint lo 0, oint hi s.size with
        | some l, some h => .req (0 ≤ l ∧ l ≤ h ∧ h ≤ (s.size : Int)) (.ret (.str (s.extract l.toNat h.toNat)))
        | _, _ => .fail
      | _ => .fail
    | x => match elemOf τ t with
      | none => .fail
      | some ei => match x with
        | .ro _ sz n cs => match oint lo 0, oint hi n with
          | some l, some h => if sz = ei.size then .req (0 ≤ l ∧ l ≤ h ∧ h ≤ (n : Int)) (.look ((cs.drop (l.toNat * sz)).take ((h.toNat - l.toNat) * sz)) fun L => .ret (.ro none sz (h.toNat - l.toNat) L)) else .fail
          | _, _ => .fail
        | .own nm g => getRow nm g ei.size fun _ n _ => match oint lo 0, oint hi n with
          | some l, some h => .req (0 ≤ l ∧ l ≤ h ∧ h ≤ (n : Int)) (.ret (.cut nm g l.toNat (h.toNat - l.toNat)))
          | _, _ => .fail
        | _ => .fail
def lenVal (τ : TTab) (t : Nat) (x : AV) : AM AV :=
  match τ t with
  | some ti => match ti.kd, x with
    | .str, .str s => .ret (.int .i64 s.size)
    | .slice _, x => match x with
      | .nils => .ret (.int .i64 0)
      | .ro _ _ n _ => .ret (.int .i64 n)
      | .cut _ _ _ n => .ret (.int .i64 n)
      | .own nm g => .get nm fun
        | some (.row g' _ _ n _) => if g' = g then .ret (.int .i64 n) else .fail
        | _ => .fail
      | .inn nm g i j v => match elemOf τ t with
        | some ei => getInn nm g i j v ei.size fun _ _ _ _ _ n _ => .ret (.int .i64 n)
        | none => .fail
      | _ => .fail
    | _, _ => .fail
  | none => .fail
/-- a struct's or array's cells out of parts: (place, cells) -/
def fillA : List AV → List (Nat × AV) → List AV
  | cs, [] => cs
  | cs, (o, x) :: r => fillA (setAt cs o x.cells) r
def place (fs : List (Nat × Nat)) (i : Nat) : Nat := (fs.getD i (0, 0)).1
def partsOk (τ : TTab) (n : Nat) (fs : List (Nat × Nat)) : List (Nat × AV) → Bool
  | [] => true
  | (i, x) :: r => (match fs[i]? with
    | some (o, ft) => (match τ ft with
      | some ti => x.known && x.cells.length == ti.size && decide (o + ti.size ≤ n)
      | none => false)
    | none => false) && partsOk τ n fs r
def typesOk (τ : TTab) (fs : List (Nat × Nat)) : Bool := fs.all fun f => (τ f.2).isSome
def buildA (τ : TTab) (t : Nat) (ps : List (Nat × AV)) : AM AV :=
  match τ t with
  | some { kd := .struct fs, sh, size, .. } => match typesOk τ fs && partsOk τ size fs ps with
    | true => .ret (.agg (fillA (sh.map CK.av) (ps.map fun p => (place fs p.1, p.2))))
    | false => .fail
  | _ => .fail
def zeros (sh : List CK) : Nat → List Tr
  | 0 => []
  | n + 1 => sh.map CK.tr ++ zeros sh n
def elsT {α : Type} (sh : List CK) : Nat → List (Nat × AV) → (List Tr → AM α) → AM α
  | _, [], k => k []
  | i, (j, x) :: r, k => if j = i ∧ x.known = true then toTL sh x.cells fun ts => elsT sh (i + 1) r fun us => k (ts ++ us) else .fail
def buildSliceA (τ : TTab) (t n : Nat) (ps : List (Nat × AV)) (D : Nat) : AM AV :=
  match elemOf τ t with
  | some ei => if ps.length = n ∧ n * ei.size ≤ 16777216 ∧ n ≤ 16777216 then elsT ei.sh 0 ps fun ts => .look ts fun ts => mk D (fun g => .row g 0 ei.size n ts) fun g => .ret (.own D g) else .fail
  | none => .fail
def makeSliceA (τ : TTab) (t : Nat) (l c : AV) (D : Nat) : AM AV :=
  match elemOf τ t, l, c with
  | some ei, .int _ l, .int _ c => .req (0 ≤ l ∧ l ≤ c ∧ c ≤ 9223372036854775807 ∧ (ei.bytes : Int) * c ≤ 281474976710656) (.look (zeros ei.sh l.toNat) fun L => mk D (fun g => .row g 0 ei.size l.toNat L) fun g => .ret (.own D g))
  | _, _, _ => .fail
/-- what is appended (t2: its type): its cells, in trees of its own -/
def rowOf {α : Type} (τ : TTab) (t2 : Nat) (ei : TI) (y : AV) (k : Nat → List Tr → AM α) : AM α :=
  match τ t2 with
  | some ti => match ti.kd with
    | .str => match y with
      | .str s => if ei.size = 1 then .look (s.data.toList.map fun b => Tr.int .u8 (b.toNat : Int)) fun L => k s.size L else .fail
      | _ => .fail
    | .slice _ => match ei.sh.all (fun c => match c with | .sc _ => true | _ => false) with
      | true => rdRow ei.size y fun n cs => .req (scal cs) (k n cs)
      | false => match y with
        | .own nm g => getRow nm g ei.size fun _ n cs => .set nm (.gone g) (k n cs)
        | .nils => k 0 []
        | _ => .fail
    | _ => .fail
  | none => .fail
/-- a row's beginning, and a later part of it -/
def cutsOf (x y : AV) : Option (Nat × Nat × Nat × Nat × Nat) :=
  match x, y with
  | .cut nm g 0 i, .cut nm' g' off m => if nm' = nm ∧ g' = g then some (nm, g, i, off, m) else none
  | _, _ => none
def appendA (τ : TTab) (t t2 : Nat) (x y : AV) (D : Nat) : AM AV :=
  match elemOf τ t with
  | none => .fail
  | some ei => if 0 < ei.size then (match cutsOf x y with
    | some (nm, g, i, off, m) => if t2 = t then getRow nm g ei.size fun _ _ cs => .req (i ≤ off ∧ (i + m) * ei.bytes ≤ 140737488355328 ∧ i + m ≤ 140737488355328) (.look (cs.take (i * ei.size) ++ (cs.drop (off * ei.size)).take (m * ei.size)) fun L => .set nm (.row (g + 1) 0 ei.size (i + m) L) (.ret (.own nm (g + 1)))) else .fail
    | none => rowOf τ t2 ei y fun m us => match x with
    | .own nm g => getRow nm g ei.size fun _ n cs => .req ((n + m) * ei.bytes ≤ 140737488355328 ∧ n + m ≤ 140737488355328) (.look (cs ++ us) fun L => .set nm (.row (g + 1) 0 ei.size (n + m) L) (.ret (.own nm (g + 1))))
    | .nils => .req (m * ei.bytes ≤ 140737488355328 ∧ m ≤ 140737488355328) (.look us fun L => mk D (fun g => .row g 0 ei.size m L) fun g => .ret (.own D g))
    | .inn nm g i j v => takeInn nm g i j v ei.size fun n cs => .req ((n + m) * ei.bytes ≤ 140737488355328 ∧ n + m ≤ 140737488355328) (.look (cs ++ us) fun L => mk D (fun g => .row g 0 ei.size (n + m) L) fun g => .ret (.own D g))
    | _ => .fail) else .fail
def pickA (c a b : AV) : AM AV :=
  match c with
  | .bool c => .ret (if c then a else b)
  | _ => .fail
def minmaxA (mx : Bool) : AV → List AV → AM AV
  | x, [] => .ret x
  | .int k x, .int k' y :: r => minmaxA mx (.int k (if mx then (if x < y then y else x) else if y < x then y else x)) r
  | _, _ => .fail
def callA (τ : TTab) (md : Nat → List Hn) (f : Nat) (ts : List Nat) (xs : List AV) (D : Nat) : AM AV :=
  hndAL τ (md f) ts xs fun ps bs l => chk bs l <| .call f ps fun res pbs => bkAL l D 100 bs pbs fun j => exRes l D 0 res fun _ x => .ret x
def osem (τ : TTab) (md : Nat → List Hn) (o : Oper) (ev : Operand → AV) (D : Nat) : AM AV :=
  match o.op with
  | .move x | .assign x => .ret (ev x)
  | .pick c a b => pickA (ev c) (ev a) (ev b)
  | .alloc t => match τ t with
    | some i => mk D (fun g => .box g t (i.sh.map CK.av)) fun g => .ret (.ptr D g 0 0)
    | none => .fail
  | .box t x => match τ t with
    | some i => if (ev x).known = true ∧ (ev x).cells.length = i.size then mk D (fun g => .box g t (ev x).cells) fun g => .ret (.ptr D g 0 0) else .fail
    | none => .fail
  | .build t ps => buildA τ t (ps.toList.map fun p => (p.1, ev p.2))
  | .buildSlice t n ps => buildSliceA τ t n (ps.toList.map fun p => (p.1, ev p.2)) D
  | .load t x => loadA τ t (ev x)
  | .store t x y => storeA τ t (ev x) (ev y)
  | .nilCheck x => match ev x with
    | .ptr nm g i off => .ret (.ptr nm g i off)
    | .rptr cs => .ret (.rptr cs)
    | _ => .fail
  | .binOp op t x (.const v) _ => match isNilC v with
    | true => nilCmp τ op t (ev x)
    | false => bin τ t op (ev x) (ev (.const v))
  | .binOp op t x y _ => bin τ t op (ev x) (ev y)
  | .unOp op _ x => una op (ev x)
  | .convert s d x => conv τ s d (ev x) D
  | .makeSlice t l c => makeSliceA τ t (ev l) (ev c) D
  | .slice t x lo hi mx => sliceVal τ t (ev x) (lo.map ev) (hi.map ev) (mx.map ev)
  | .fieldAddr t x f => fieldPtr τ t (ev x) f
  | .field t x f => fieldVal τ t (ev x) f
  | .indexAddr t x ix => indexPtr τ t (ev x) (ev ix)
  | .index t x ix => indexVal τ t (ev x) (ev ix)
  | .extract x i => match ev x with
    | .tup cs => match cs[i]? with
      | some x => .ret x
      | none => .fail
    | _ => .fail
  | .call { callee := .value x, args, argTypes } => match ev x with
    | .fn f => callA τ md f argTypes.toList (args.toList.map ev) D
    | _ => .fail
  | .call { callee := .builtin .len, args, argTypes } => match args.toList.map ev, argTypes.toList with
    | [x], [t] => lenVal τ t x
    | _, _ => .fail
  | .call { callee := .builtin .append, args, argTypes } => match args.toList.map ev, argTypes.toList with
    | [x, y], [t, t2] => appendA τ t t2 x y D
    | _, _ => .fail
  | .call { callee := .builtin .max, args, .. } => match args.toList.map ev with
    | x :: r => minmaxA true x r
    | _ => .fail
  | .call { callee := .builtin .min, args, .. } => match args.toList.map ev with
    | x :: r => minmaxA false x r
    | _ => .fail
  | _ => .fail
end AM

/-! ### code -/
def putA (tm : Nat → AV) (d : Option Nat) (x : AV) : Nat → AV :=
  match d with
  | some d => upd tm d x
  | none => tm
def baseOf (d : Option Nat) : Nat := 1000 * (d.getD 0) + 1000
/-- what is to be shown of p, then L -/
def wpo (P : Program) {α : Type} : AM α → Mem → (α → Mem → Prop) → Prop
  | .ret v, m, L => L v m
  | .fail, m, L => False
  | .req p k, m, L => p ∧ wpo P k m L
  | .pick k, m, L => ∀ b, wpo P (k b) m L
  | .look l k, m, L => wpo P (k l) m L
  | .get nm k, m, L => wpo P (k (m nm)) m L
  | .set nm b k, m, L => wpo P k (upd m nm (some b)) L
  | .call f pas k, m, L => ∃ res pbs, AGood P f pas res pbs ∧ wpo P (k res pbs) m L
/-- a guard: the slot that it asks -/
def guardW (b : AV) (want : Bool) (yes no : Prop) : Prop :=
  match b with
  | .bool c => (c = want → yes) ∧ (c ≠ want → no)
  | .tup [] => no
  | _ => False
structure Env where
  P : Program
  τ : TTab
  md : Nat → List Hn
/-- the value that a guard asks -/
def gdv (all : Array Oper) (tm : Nat → AV) (j : Nat) : AV :=
  match (all[j]?).bind (·.dst) with
  | some t => tm t
  | none => .any
def aops (E : Env) (all : Array Oper) (K : AState → Prop) : List Oper → AState → Prop
  | [], s => K s
  | o :: r, s => match o.guard with
    | none => wpo E.P (AM.osem E.τ E.md o (evA s.tm) (baseOf o.dst)) s.mem fun v m => aops E all K r ⟨putA s.tm o.dst v, m, s.gs⟩
    | some (j, want) => guardW (gdv all s.tm j) want (wpo E.P (AM.osem E.τ E.md o (evA s.tm) (baseOf o.dst)) s.mem fun v m => aops E all K r ⟨putA s.tm o.dst v, m, s.gs⟩) (aops E all K r ⟨putA s.tm o.dst (.tup []), s.mem, s.gs⟩)
/-! ### stepping -/
inductive R1 where
  | ok (v : AV) (m : Mem)
  | req (p : Prop) (k : AM AV) (m : Mem)
  | pick (k : Bool → AM AV) (m : Mem)
  | look (L : List Tr) (k : List Tr → AM AV) (m : Mem)
  | call (f : Nat) (pas : List PA) (k : Tr → List PB → AM AV) (m : Mem)
  | fail
def run1 : AM AV → Mem → R1
  | .ret v, m => match v with
    | .any => .ok .any m
    | .int k n => .ok (.int k n) m
    | .bool b => .ok (.bool b) m
    | .str s => .ok (.str s) m
    | .agg cs => .ok (.agg cs) m
    | .tup cs => .ok (.tup cs) m
    | .nils => .ok .nils m
    | .ro a b c d => .ok (.ro a b c d) m
    | .own a b => .ok (.own a b) m
    | .cut a b c d => .ok (.cut a b c d) m
    | .inn a b c d e => .ok (.inn a b c d e) m
    | .ptr a b c d => .ok (.ptr a b c d) m
    | .rptr cs => .ok (.rptr cs) m
    | .fn f => .ok (.fn f) m
  | .fail, m => .fail
  | .req p k, m => .req p k m
  | .pick k, m => .pick k m
  | .look l k, m => .look l k m
  | .get nm k, m => run1 (k (m nm)) m
  | .set nm b k, m => run1 k (upd m nm (some b))
  | .call f pas k, m => .call f pas k m
def R1.wp (P : Program) (L : AV → Mem → Prop) : R1 → Prop
  | .ok v m => L v m
  | .req p k m => p ∧ wpo P k m L
  | .pick k m => ∀ b, wpo P (k b) m L
  | .look l k m => wpo P (k l) m L
  | .call f pas k m => ∃ res pbs, AGood P f pas res pbs ∧ wpo P (k res pbs) m L
  | .fail => False
theorem wpo_run {P : Program} {L : AV → Mem → Prop} : ∀ {p : AM AV} {m}, (run1 p m).wp P L → wpo P p m L
  | .ret v, m, h => by cases v <;> simpa only [run1, R1.wp, wpo] using h
  | .fail, m, h => by simp only [run1, R1.wp] at h
  | .req p k, m, h => by simpa only [run1, R1.wp, wpo] using h
  | .pick k, m, h => by simpa only [run1, R1.wp, wpo] using h
  | .look l k, m, h => by simpa only [run1, R1.wp, wpo] using h
  | .get nm k, m, h => by simp only [run1] at h; simp only [wpo]; exact wpo_run h
  | .set nm b k, m, h => by simp only [run1] at h; simp only [wpo]; exact wpo_run h
  | .call f pas k, m, h => by simpa only [run1, R1.wp, wpo] using h
section
variable {P : Program} {L : AV → Mem → Prop} {p : AM AV} {m m' : Mem}
theorem w_ok {v : AV} (h : run1 p m = .ok v m') (k : L v m') : wpo P p m L := wpo_run (by rw [h]; exact k)
theorem w_req {q : Prop} {k : AM AV} (h : run1 p m = .req q k m') (hq : q) (hk : wpo P k m' L) : wpo P p m L := wpo_run (by rw [h]; exact ⟨hq, hk⟩)
theorem w_look {l l' : List Tr} {k : List Tr → AM AV} (h : run1 p m = .look l k m') (he : l = l') (hk : wpo P (k l') m' L) : wpo P p m L := wpo_run (by rw [h]; subst he; exact hk)
theorem w_call {f : Nat} {pas : List PA} {k : Tr → List PB → AM AV} (h : run1 p m = .call f pas k m') {res : Tr} {pbs : List PB} (hg : AGood P f pas res pbs) (hk : wpo P (k res pbs) m' L) : wpo P p m L := wpo_run (by rw [h]; exact ⟨res, pbs, hg, hk⟩)
theorem w_pick {k : Bool → AM AV} (h : run1 p m = .pick k m') (hk : ∀ b, wpo P (k b) m' L) : wpo P p m L := wpo_run (by rw [h]; exact hk)
end
theorem o_nil {E all K s} (h : K s) : aops E all K [] s := h
theorem o_cons {E all K tm m0 gs r} {d : Option Nat} {op : Op} {ty : Nat} {pos : String} {af : Array Edge} (h : wpo E.P (AM.osem E.τ E.md ⟨d, op, ty, pos, af, none⟩ (evA tm) (baseOf d)) m0 fun v m => aops E all K r ⟨putA tm d v, m, gs⟩) :
    aops E all K (⟨d, op, ty, pos, af, none⟩ :: r) ⟨tm, m0, gs⟩ := h
end Go.AM
/- AN ABSTRACT MACHINE, 4: what it means that a state of the machine is as an abstract state says ('HM', 'AVok'), and what may become of it ('Evo'). No condition of its own. -/
namespace Go.AM
open Go

structure Ctx where
  w0 : World
  F0 : List Nat
  tags : List Value
def Ctx.safe (c : Ctx) (k : Nat) : Prop := k ∉ c.F0 ∧ k < c.w0.heap.size

def Ref (m : Mem) (nm g : Nat) (p : Blk → Prop) : Prop := ∃ b, m nm = some b ∧ g ≤ b.gen ∧ (g = b.gen → p b)
def CutOf (H : Value) (sz off n : Nat) (v : Value) : Prop :=
  ∃ A c, v = .slice A n c ∧ n ≤ c ∧ c ≤ maxL ∧ (0 < n → ∃ b N C, H = .slice (some ⟨b, 0, none⟩) N C ∧ A = some ⟨b, off * sz, none⟩) ∧ (off = 0 → ∃ N, H = .slice A N c)
def innB (hd : Value) (h : Heap) (i j vv : Nat) (v : Value) : Blk → Prop
  | .row _ ver sz n _ => vv ≤ ver ∧ (vv = ver → i < n ∧ j < sz ∧ ∃ b N C, hd = .slice (some ⟨b, 0, none⟩) N C ∧ cellAt h ⟨b, i * sz + j, none⟩ = some v)
  | .lent _ ver _ _ => vv ≤ ver
  | _ => True
def ptrB (hd : Value) (i off : Nat) (v : Value) : Blk → Prop
  | .row _ _ sz n _ => i < n ∧ ∃ b N C, hd = .slice (some ⟨b, 0, none⟩) N C ∧ v = .pointer (some ⟨b, i * sz + off, none⟩)
  | .lent _ _ sz n => i < n ∧ ∃ b N C, hd = .slice (some ⟨b, 0, none⟩) N C ∧ v = .pointer (some ⟨b, i * sz + off, none⟩)
  | .box _ _ _ => i = 0 ∧ ∃ b, hd = .pointer (some ⟨b, 0, none⟩) ∧ v = .pointer (some ⟨b, off, none⟩)
  | .lentB _ _ => i = 0 ∧ ∃ b, hd = .pointer (some ⟨b, 0, none⟩) ∧ v = .pointer (some ⟨b, off, none⟩)
  | _ => True
def ownB (hd : Value) (v : Value) : Blk → Prop
  | .row .. => v = hd
  | .lent .. => v = hd
  | _ => True
def cutB (hd : Value) (off n : Nat) (v : Value) : Blk → Prop
  | .row _ _ sz N _ => off + n ≤ N ∧ CutOf hd sz off n v
  | .lent _ _ sz N => off + n ≤ N ∧ CutOf hd sz off n v
  | _ => True

mutual
def AVok (c : Ctx) (hd : Nat → Value) (m : Mem) (h : Heap) : AV → Value → Prop
  | .any, v => True
  | .int k n, v => v = .int k n
  | .bool b, v => v = .bool b
  | .str s, v => v = .string s
  | .agg cs, v => ∃ vs, v = .agg vs ∧ AVokL c hd m h cs vs.toList ∧ ∀ u, u ∈ vs.toList → u.oneCell' = true
  | .tup cs, v => ∃ vs, v = .tuple vs ∧ AVokL c hd m h cs vs.toList
  | .nils, v => ∃ A, v = .slice A 0 0
  | .ro tg sz n cs, v => Rd c.w0.heap c.safe (.row sz n cs) v ∧ ∀ k, tg = some k → c.tags[k]? = some v
  | .own nm g, v => v.oneCell' = true ∧ Ref m nm g (ownB (hd nm) v)
  | .cut nm g off n, v => (∃ A C, v = .slice A n C ∧ n ≤ C ∧ C ≤ maxL) ∧ Ref m nm g (cutB (hd nm) off n v)
  | .inn nm g i j vv, v => v.oneCell' = true ∧ Ref m nm g (innB (hd nm) h i j vv v)
  | .ptr nm g i off, v => (∃ a, v = .pointer (some a)) ∧ Ref m nm g (ptrB (hd nm) i off v)
  | .rptr cs, v => ∃ a vs, v = .pointer (some a) ∧ c.safe a.block ∧ RdL c.w0.heap c.safe cs vs ∧ (∀ j u, vs[j]? = some u → cellAt c.w0.heap (a.add j) = some u) ∧ cells1 cs
  | .fn f, v => v = .func (.func f) #[] #[]
def AVokL (c : Ctx) (hd : Nat → Value) (m : Mem) (h : Heap) : List AV → List Value → Prop
  | [], vs => vs = []
  | x :: xs, vs => ∃ v us, vs = v :: us ∧ AVok c hd m h x v ∧ AVokL c hd m h xs us
end

def BlkOk (c : Ctx) (hd : Nat → Value) (m : Mem) (h : Heap) (nm : Nat) : Blk → List Nat → Prop
  | .row g v sz n cs, F => Ow h c.tags (.row sz n cs) (hd nm) F
  | .box g t cs, F => ∃ b cur e fr, hd nm = .pointer (some ⟨b, 0, none⟩) ∧ h[b]? = some (.cells cur e fr) ∧ unfr fr cur.size ∧ AVokL c hd m h cs cur.toList ∧ (∀ u, u ∈ cur.toList → u.oneCell' = true) ∧ F = [b]
  | .gone g, F => F = []
  | .lent .., F => F = []
  | .lentB .., F => F = []

structure HM (c : Ctx) (hd : Nat → Value) (fp : Nat → List Nat) (m : Mem) (w : World) (X : List Nat) : Prop where
  blk : ∀ nm b, m nm = some b → BlkOk c hd m w.heap nm b (fp nm)
  non : ∀ nm, m nm = none → fp nm = []
  nd : ∀ nm, (fp nm).Nodup
  dj : ∀ nm nm', nm ≠ nm' → ∀ k, k ∈ fp nm → k ∉ fp nm'
  xnd : X.Nodup
  xd : ∀ nm k, k ∈ fp nm → k ∉ X
  reg : ∀ nm k, k ∈ fp nm → k ∈ c.F0 ∨ c.w0.heap.size ≤ k
  xreg : ∀ k, k ∈ X → (k ∈ c.F0 ∨ c.w0.heap.size ≤ k) ∧ k < w.heap.size
  os : w.os = c.w0.os
  tape : w.tape = c.w0.tape
  output : w.output = c.w0.output
  size : c.w0.heap.size ≤ w.heap.size
  same : ∀ k, c.safe k → w.heap[k]? = c.w0.heap[k]?
  tg1 : ∀ u, u ∈ c.tags → u.oneCell' = true

theorem HM.lt {c hd fp m w X} (H : HM c hd fp m w X) {nm k : Nat} (hk : k ∈ fp nm) : k < w.heap.size := by
  cases hm : m nm with
  | none => rw [H.non nm hm] at hk; cases hk
  | some b =>
    have hb := H.blk nm b hm
    cases b with
    | row g v sz n cs => exact Ow.lt hb k hk
    | box g t cs =>
      obtain ⟨b, cur, e, fr, _, h2, _, _, _, h5⟩ := hb
      rw [h5] at hk
      rw [List.mem_singleton.1 hk]
      exact lt_of_get h2
    | gone g => rw [show fp nm = [] from hb] at hk; cases hk
    | lent g v sz n => rw [show fp nm = [] from hb] at hk; cases hk
    | lentB g t => rw [show fp nm = [] from hb] at hk; cases hk

/-! ### what may become of a state -/
def EvB (hd hd' : Value) (h h' : Heap) : Blk → Blk → Prop
  | .row g v sz n cs, .row g' v' sz' n' cs' => hd' = hd ∧ sz' = sz ∧ n' = n ∧ v ≤ v' ∧ (v = v' → ∀ b N C, hd = .slice (some ⟨b, 0, none⟩) N C → ∀ o, o < n * sz → cellAt h' ⟨b, o, none⟩ = cellAt h ⟨b, o, none⟩)
  | .row g v sz n cs, .lent g' v' sz' n' => hd' = hd ∧ sz' = sz ∧ n' = n ∧ v ≤ v'
  | .lent g v sz n, .lent g' v' sz' n' => hd' = hd ∧ sz' = sz ∧ n' = n ∧ v ≤ v'
  | .lent g v sz n, .row g' v' sz' n' cs' => hd' = hd ∧ sz' = sz ∧ n' = n ∧ v < v'
  | .box g t cs, .box g' t' cs' => hd' = hd
  | .box g t cs, .lentB g' t' => hd' = hd
  | .lentB g t, .lentB g' t' => hd' = hd
  | .lentB g t, .box g' t' cs' => hd' = hd
  | _, .gone _ => True
  | _, _ => False
def Evo (hd : Nat → Value) (m : Mem) (h : Heap) (hd' : Nat → Value) (m' : Mem) (h' : Heap) : Prop :=
  ∀ nm b, m nm = some b → ∃ b', m' nm = some b' ∧ b.gen ≤ b'.gen ∧ (b.gen = b'.gen → EvB (hd nm) (hd' nm) h h' b b')

theorem EvB.refl (hd : Value) (h : Heap) : ∀ b, EvB hd hd h h b b
  | .row .. => ⟨rfl, rfl, rfl, Nat.le_refl _, fun _ _ _ _ _ _ _ => rfl⟩
  | .box .. => rfl
  | .gone _ => trivial
  | .lent .. => ⟨rfl, rfl, rfl, Nat.le_refl _⟩
  | .lentB .. => rfl
theorem Evo.refl (hd : Nat → Value) (m : Mem) (h : Heap) : Evo hd m h hd m h := fun nm b hb => ⟨b, hb, Nat.le_refl _, fun _ => EvB.refl _ _ b⟩
theorem EvB.trans {hd hd' hd'' : Value} {h h' h'' : Heap} {a b c : Blk} (H : EvB hd hd' h h' a b) (K : EvB hd' hd'' h' h'' b c) : EvB hd hd'' h h'' a c := by
  cases a <;> cases b <;> cases c <;> simp only [EvB] at H K ⊢ <;> (try exact H.elim) <;> (try exact K.elim) <;> (try exact K.trans H)
  case row.row.row =>
    obtain ⟨h1, h2, h3, h4, h5⟩ := H
    obtain ⟨k1, k2, k3, k4, k5⟩ := K
    refine ⟨k1.trans h1, k2.trans h2, k3.trans h3, Nat.le_trans h4 k4, fun hv b N C hb o ho => ?_⟩
    have e1 := Nat.le_antisymm h4 (hv ▸ k4)
    rw [k5 (e1.symm.trans hv) b N C (h1.trans hb) o (by rw [h2, h3]; exact ho), h5 e1 b N C hb o ho]
  case row.lent.row =>
    obtain ⟨h1, h2, h3, h4⟩ := H
    obtain ⟨k1, k2, k3, k4⟩ := K
    exact ⟨k1.trans h1, k2.trans h2, k3.trans h3, by omega, fun hv => by omega⟩
  all_goals
    obtain ⟨h1, h2, h3, h4⟩ := H
    obtain ⟨k1, k2, k3, k4⟩ := K
    exact ⟨k1.trans h1, k2.trans h2, k3.trans h3, by omega⟩
theorem Evo.trans {hd m h hd' m' h' hd'' m'' h''} (H : Evo hd m h hd' m' h') (K : Evo hd' m' h' hd'' m'' h'') : Evo hd m h hd'' m'' h'' := by
  intro nm b hb
  obtain ⟨b1, e1, g1, k1⟩ := H nm b hb
  obtain ⟨b2, e2, g2, k2⟩ := K nm b1 e1
  refine ⟨b2, e2, Nat.le_trans g1 g2, fun he => ?_⟩
  have a1 : b.gen = b1.gen := Nat.le_antisymm g1 (he ▸ g2)
  exact (k1 a1).trans (k2 (a1.symm.trans he))

theorem Ref.evo {hd m h hd' m' h'} (E : Evo hd m h hd' m' h') {nm g : Nat} {p p' : Blk → Prop} (H : Ref m nm g p) (hp : ∀ b b', m nm = some b → g = b.gen → p b → EvB (hd nm) (hd' nm) h h' b b' → p' b') : Ref m' nm g p' := by
  obtain ⟨b, hb, hg, hk⟩ := H
  obtain ⟨b', e, g1, k1⟩ := E nm b hb
  refine ⟨b', e, Nat.le_trans hg g1, fun he => ?_⟩
  have a1 : g = b.gen := Nat.le_antisymm hg (he ▸ g1)
  exact hp b b' hb a1 (hk a1) (k1 (a1.symm.trans he))

theorem ownB.evo {hd hd' : Value} {h h' : Heap} {v : Value} {b b' : Blk} (H : ownB hd v b) (E : EvB hd hd' h h' b b') : ownB hd' v b' := by
  cases b <;> cases b' <;> simp only [EvB, ownB] at E H ⊢ <;> (try exact E.elim)
  all_goals exact H.trans E.1.symm
theorem cutB.evo {hd hd' : Value} {h h' : Heap} {off n : Nat} {v : Value} {b b' : Blk} (H : cutB hd off n v b) (E : EvB hd hd' h h' b b') : cutB hd' off n v b' := by
  cases b <;> cases b' <;> simp only [EvB, cutB] at E H ⊢ <;> (try exact E.elim)
  all_goals (rw [E.1, E.2.1, E.2.2.1]; exact H)
theorem ptrB.evo {hd hd' : Value} {h h' : Heap} {i off : Nat} {v : Value} {b b' : Blk} (H : ptrB hd i off v b) (E : EvB hd hd' h h' b b') : ptrB hd' i off v b' := by
  cases b <;> cases b' <;> simp only [EvB, ptrB] at E H ⊢ <;> (try exact E.elim)
  case box.box => rw [E]; exact H
  case box.lentB => rw [E]; exact H
  case lentB.box => rw [E]; exact H
  case lentB.lentB => rw [E]; exact H
  all_goals (rw [E.1, E.2.1, E.2.2.1]; exact H)
theorem mul_add_lt {i n j sz : Nat} (hi : i < n) (hj : j < sz) : i * sz + j < n * sz := by
  have h1 : (i + 1) * sz ≤ n * sz := Nat.mul_le_mul_right _ hi
  rw [Nat.succ_mul] at h1; omega
theorem innB.evo {hd hd' : Value} {h h' : Heap} {i j vv : Nat} {v : Value} {b b' : Blk} (H : innB hd h i j vv v b) (E : EvB hd hd' h h' b b') : innB hd' h' i j vv v b' := by
  cases b <;> cases b' <;> simp only [EvB, innB] at E H ⊢ <;> (try exact E.elim)
  case row.row =>
    obtain ⟨e1, e2, e3, e4, e5⟩ := E
    subst e1; subst e2; subst e3
    refine ⟨Nat.le_trans H.1 e4, fun hv => ?_⟩
    have a1 := Nat.le_antisymm H.1 (hv ▸ e4)
    obtain ⟨h1, h2, b, N, C, h3, h4⟩ := H.2 a1
    exact ⟨h1, h2, b, N, C, h3, (e5 (a1.symm.trans hv) b N C h3 _ (mul_add_lt h1 h2)).trans h4⟩
  case row.lent => exact Nat.le_trans H.1 E.2.2.2
  case lent.lent => exact Nat.le_trans H E.2.2.2
  case lent.row => exact ⟨Nat.le_of_lt (Nat.lt_of_le_of_lt H E.2.2.2), fun hv => by have := E.2.2.2; omega⟩

mutual
theorem AVok.evo {c : Ctx} {hd m h hd' m' h'} (E : Evo hd m h hd' m' h') : ∀ (x : AV) {v}, AVok c hd m h x v → AVok c hd' m' h' x v
  | .any, v, H => by simp only [AVok]
  | .int .., v, H | .bool _, v, H | .str _, v, H | .nils, v, H | .ro .., v, H | .rptr _, v, H | .fn _, v, H => by simpa only [AVok] using H
  | .agg cs, v, H => by
    simp only [AVok] at H ⊢
    obtain ⟨vs, h1, h2, h3⟩ := H
    exact ⟨vs, h1, AVokL.evo E cs h2, h3⟩
  | .tup cs, v, H => by
    simp only [AVok] at H ⊢
    obtain ⟨vs, h1, h2⟩ := H
    exact ⟨vs, h1, AVokL.evo E cs h2⟩
  | .own nm g, v, H => by simp only [AVok] at H ⊢; exact ⟨H.1, Ref.evo E H.2 (fun _ _ _ _ a b => ownB.evo a b)⟩
  | .cut nm g off n, v, H => by simp only [AVok] at H ⊢; exact ⟨H.1, Ref.evo E H.2 (fun _ _ _ _ a b => cutB.evo a b)⟩
  | .inn nm g i j vv, v, H => by simp only [AVok] at H ⊢; exact ⟨H.1, Ref.evo E H.2 (fun _ _ _ _ a b => innB.evo a b)⟩
  | .ptr nm g i off, v, H => by simp only [AVok] at H ⊢; exact ⟨H.1, Ref.evo E H.2 (fun _ _ _ _ a b => ptrB.evo a b)⟩
theorem AVokL.evo {c : Ctx} {hd m h hd' m' h'} (E : Evo hd m h hd' m' h') : ∀ (xs : List AV) {vs}, AVokL c hd m h xs vs → AVokL c hd' m' h' xs vs
  | [], vs, H => by simpa only [AVokL] using H
  | x :: xs, vs, H => by
    simp only [AVokL] at H ⊢
    obtain ⟨v, us, h1, h2, h3⟩ := H
    exact ⟨v, us, h1, AVok.evo E x h2, AVokL.evo E xs h3⟩
end

/-! ### lists of values -/
theorem AVokL.length {c hd m h} : ∀ {xs : List AV} {vs}, AVokL c hd m h xs vs → vs.length = xs.length
  | [], vs, H => by simp only [AVokL] at H; simp [H]
  | x :: xs, vs, H => by
    simp only [AVokL] at H
    obtain ⟨v, us, rfl, _, h3⟩ := H
    simp [AVokL.length h3]
theorem AVokL.get {c hd m h} : ∀ {xs : List AV} {vs} {j : Nat} {x}, AVokL c hd m h xs vs → xs[j]? = some x → ∃ v, vs[j]? = some v ∧ AVok c hd m h x v
  | [], vs, j, x, H, hj => by simp at hj
  | y :: ys, vs, j, x, H, hj => by
    simp only [AVokL] at H
    obtain ⟨v, us, rfl, h1, h2⟩ := H
    cases j with
    | zero => simp at hj; subst hj; exact ⟨v, rfl, h1⟩
    | succ j => simp at hj; simpa using AVokL.get h2 hj
theorem AVokL.drop {c hd m h} : ∀ {xs : List AV} {vs} (k : Nat), AVokL c hd m h xs vs → AVokL c hd m h (xs.drop k) (vs.drop k)
  | xs, vs, 0, H => by simpa using H
  | [], vs, k + 1, H => by simp only [AVokL] at H; subst H; simp [AVokL]
  | x :: xs, vs, k + 1, H => by
    simp only [AVokL] at H
    obtain ⟨v, us, rfl, _, h3⟩ := H
    simpa using AVokL.drop k h3
theorem AVokL.take {c hd m h} : ∀ {xs : List AV} {vs} (k : Nat), AVokL c hd m h xs vs → AVokL c hd m h (xs.take k) (vs.take k)
  | xs, vs, 0, H => by simp [AVokL]
  | [], vs, k + 1, H => by simp only [AVokL] at H; subst H; simp [AVokL]
  | x :: xs, vs, k + 1, H => by
    simp only [AVokL] at H
    obtain ⟨v, us, rfl, h2, h3⟩ := H
    simp only [List.take_succ_cons, AVokL]
    exact ⟨v, _, rfl, h2, AVokL.take k h3⟩
theorem AVokL.set {c hd m h} : ∀ {xs : List AV} {vs} (k : Nat) {x v}, AVokL c hd m h xs vs → AVok c hd m h x v → AVokL c hd m h (xs.set k x) (vs.set k v)
  | [], vs, k, x, v, H, hx => by simp only [AVokL] at H; subst H; simp [AVokL]
  | y :: ys, vs, 0, x, v, H, hx => by
    simp only [AVokL] at H
    obtain ⟨u, us, rfl, h2, h3⟩ := H
    simp only [List.set_cons_zero, AVokL]
    exact ⟨v, us, rfl, hx, h3⟩
  | y :: ys, vs, k + 1, x, v, H, hx => by
    simp only [AVokL] at H
    obtain ⟨u, us, rfl, h2, h3⟩ := H
    simp only [List.set_cons_succ, AVokL]
    exact ⟨u, _, rfl, h2, AVokL.set k h3 hx⟩
theorem AVokL.setAt {c hd m h} : ∀ {ys : List AV} {us} {xs vs} (k : Nat), AVokL c hd m h xs vs → AVokL c hd m h ys us → AVokL c hd m h (setAt xs k ys) (setAt vs k us)
  | [], us, xs, vs, k, H, hy => by simp only [AVokL] at hy; subst hy; simpa [Go.AM.setAt] using H
  | y :: ys, us, xs, vs, k, H, hy => by
    simp only [AVokL] at hy
    obtain ⟨u, ws, rfl, h2, h3⟩ := hy
    simp only [Go.AM.setAt]
    exact AVokL.setAt (k + 1) (AVokL.set k H h2) h3
theorem AVok.cells {c hd m h} {x : AV} {v : Value} (H : AVok c hd m h x v) (hx : x.known = true) : AVokL c hd m h x.cells v.cells.toList ∧ ∀ u, u ∈ v.cells.toList → u.oneCell' = true := by
  have one : ∀ {x : AV} {v : Value}, AVok c hd m h x v → v.oneCell' = true → x.cells = [x] → AVokL c hd m h x.cells v.cells.toList ∧ ∀ u, u ∈ v.cells.toList → u.oneCell' = true := by
    intro x v H h1 h2
    have : v.cells = #[v] := by cases v <;> first | rfl | (simp [Value.oneCell'] at h1)
    rw [this, h2]
    simp only [AVokL]
    exact ⟨⟨v, [], rfl, H, rfl⟩, fun u hu => by simp at hu; rw [hu]; exact h1⟩
  cases x
  case agg cs =>
    simp only [AVok] at H
    obtain ⟨vs, rfl, h2, h3⟩ := H
    exact ⟨h2, h3⟩
  case any => simp [AV.known] at hx
  case tup => simp [AV.known] at hx
  case own => exact one H (by simp only [AVok] at H; exact H.1) rfl
  case cut => exact one H (by simp only [AVok] at H; obtain ⟨⟨A, C, rfl, _⟩, _⟩ := H; rfl) rfl
  case inn => exact one H (by simp only [AVok] at H; exact H.1) rfl
  case ptr => exact one H (by simp only [AVok] at H; obtain ⟨⟨a, rfl⟩, _⟩ := H; rfl) rfl
  case ro => exact one H (by simp only [AVok, Rd] at H; obtain ⟨⟨_, A, c, vs, rfl, _⟩, _⟩ := H; rfl) rfl
  case rptr => exact one H (by simp only [AVok] at H; obtain ⟨a, vs, rfl, _⟩ := H; rfl) rfl
  case nils => exact one H (by simp only [AVok] at H; obtain ⟨A, rfl⟩ := H; rfl) rfl
  all_goals exact one H (by simp only [AVok] at H; rw [H]; rfl) rfl
theorem AVok.one {c hd m h} {x : AV} {v : Value} (H : AVok c hd m h x v) (hx : x.known = true) (ha : ∀ cs, x ≠ .agg cs) : v.oneCell' = true := by
  have := (AVok.cells H hx).2
  cases x <;> simp only [AVok] at H
  case agg cs => exact absurd rfl (ha cs)
  case any => simp [AV.known] at hx
  case tup => simp [AV.known] at hx
  case own => exact H.1
  case cut => obtain ⟨⟨A, C, rfl, _⟩, _⟩ := H; rfl
  case inn => exact H.1
  case ptr => obtain ⟨⟨a, rfl⟩, _⟩ := H; rfl
  case ro => simp only [Rd] at H; obtain ⟨⟨_, A, c, vs, rfl, _⟩, _⟩ := H; rfl
  case rptr => obtain ⟨a, vs, rfl, _⟩ := H; rfl
  case nils => obtain ⟨A, rfl⟩ := H; rfl
  all_goals (rw [H]; rfl)

/-! ### types -/
def CK.zero : CK → Value
  | .sc (.int k n) => .int k n
  | .sc (.bool b) => .bool b
  | .sc (.str s) => .string s
  | .sc _ => .bool false
  | .sl _ => .slice none 0 0
  | .pt _ => .pointer none
def TI.zeroV (i : TI) : Value := if i.kd.agg then .agg (i.sh.map CK.zero).toArray else (i.sh.map CK.zero).headD undef
def kdOf : TypeDesc → TK
  | .bool => .bool
  | .int k => .int k
  | .string => .str
  | .slice e => .slice e
  | .struct fs => .struct (fs.toList.map fun f => (f.offset, f.type))
  | .array n e => .array n e
  | .pointer e => .ptr e
  | _ => .other
structure TI.Ok (P : Program) (t : Nat) (i : TI) : Prop where
  info : (P.info? t).map (fun I => (I.size, I.bytes, I.zero)) = some (i.size, i.bytes, some i.zeroV)
  und : (P.underlying t).map kdOf = some i.kd
  len : i.sh.length = i.size
  one : i.kd.agg = false → i.size = 1
def TTok (P : Program) (τ : TTab) : Prop := ∀ t i, τ t = some i → TI.Ok P t i
section
variable {P : Program} {t : Nat} {i : TI}
theorem TI.Ok.size (H : TI.Ok P t i) (w : World) : (sizeOf t).run P w = .ok i.size w := by
  obtain ⟨I, h1, h2⟩ := Option.map_eq_some_iff.1 H.info
  simp only [Prod.mk.injEq] at h2
  simp [sizeOf, typeInfo, h1, h2.1]
theorem TI.Ok.tinfo (H : TI.Ok P t i) : ∃ I, P.info? t = some I ∧ I.size = i.size ∧ I.bytes = i.bytes ∧ I.zero = some i.zeroV := by
  obtain ⟨I, h1, h2⟩ := Option.map_eq_some_iff.1 H.info
  simp only [Prod.mk.injEq] at h2
  exact ⟨I, h1, h2.1, h2.2.1, h2.2.2⟩
theorem TI.Ok.zeroR (H : TI.Ok P t i) (w : World) : (zeroValue t).run P w = .ok i.zeroV w := by
  obtain ⟨I, h1, h2, h3, h4⟩ := H.tinfo
  simp [zeroValue, typeInfo, h1, h4]
theorem TI.Ok.undR (H : TI.Ok P t i) : ∃ d, P.underlying t = some d ∧ kdOf d = i.kd := by
  obtain ⟨d, h1, h2⟩ := Option.map_eq_some_iff.1 H.und
  exact ⟨d, h1, h2⟩
theorem TI.Ok.isAgg (H : TI.Ok P t i) (w : World) : (isAgg t).run P w = .ok i.kd.agg w := by
  obtain ⟨d, h1, h2⟩ := H.undR
  have := run_underlying h1 w
  simp only [Go.isAgg, Sem.run_bind, this, Result.andThen_ok]
  rw [← h2]
  cases d <;> rfl
theorem TI.Ok.slice {e : Nat} (H : TI.Ok P t i) (he : i.kd = .slice e) (w : World) : P.underlying t = some (.slice e) := by
  obtain ⟨d, h1, h2⟩ := H.undR
  rw [he] at h2
  cases d <;> simp [kdOf] at h2
  rw [h1, h2]
theorem TI.Ok.struct {fs : List (Nat × Nat)} (H : TI.Ok P t i) (he : i.kd = .struct fs) : ∃ fields, P.underlying t = some (.struct fields) ∧ fields.toList.map (fun f => (f.offset, f.type)) = fs := by
  obtain ⟨d, h1, h2⟩ := H.undR
  rw [he] at h2
  cases d <;> simp [kdOf] at h2
  exact ⟨_, h1, by simpa using h2⟩
end
end Go.AM
/- AN ABSTRACT MACHINE, 5: how a state changes: one block is written, made, taken. No condition of its own. -/
namespace Go.AM
open Go

/-- where a row's cells lie: in its own block -/
theorem row_mem {h : Heap} {tg : List Value} {sz n : Nat} {cs : List Tr} {v : Value} {F : List Nat} (H : Ow h tg (.row sz n cs) v F) {b N C : Nat} (hv : v = .slice (some ⟨b, 0, none⟩) N C) (hn : 0 < n) : b ∈ F := by
  simp only [Ow] at H
  rcases H.2 with ⟨A, _, h0, _⟩ | ⟨g, cap, cur, e, fr, G, h1, _, _, _, _, _, _, rfl⟩
  · omega
  · rw [hv] at h1
    injection h1 with h1 _ _
    injection h1 with h1
    injection h1 with h1
    simp [h1]

section
variable {c : Ctx} {hd : Nat → Value} {fp : Nat → List Nat} {m : Mem} {w w' : World} {X Y : List Nat}

theorem HM.evo_heap (H : HM c hd fp m w X) {h' : Heap} (hs : ∀ nm k, k ∈ fp nm → h'[k]? = w.heap[k]?) : Evo hd m w.heap hd m h' := by
  intro nm b hb
  refine ⟨b, hb, Nat.le_refl _, fun _ => ?_⟩
  cases b with
  | row g v sz n cs =>
    refine ⟨rfl, rfl, rfl, Nat.le_refl _, fun _ b N C hv o ho => cellAt_frame ?_⟩
    have hn : 0 < n := by
      rcases Nat.eq_zero_or_pos n with h | h
      · subst h; simp at ho
      · exact h
    exact hs nm b (row_mem (H.blk nm _ hb) hv hn)
  | box g t cs => rfl
  | gone g => trivial
  | lent g v sz n => exact ⟨rfl, rfl, rfl, Nat.le_refl _⟩
  | lentB g t => rfl

theorem BlkOk.frame (H : HM c hd fp m w X) {h' : Heap} {hd' : Nat → Value} {m' : Mem} (E : Evo hd m w.heap hd' m' h') {nm : Nat} {b : Blk} (hb : m nm = some b) (hh : hd' nm = hd nm) (hs : ∀ k, k ∈ fp nm → h'[k]? = w.heap[k]?) : BlkOk c hd' m' h' nm b (fp nm) := by
  have hk := H.blk nm b hb
  cases b with
  | row g v sz n cs => simp only [BlkOk] at hk ⊢; rw [hh]; exact Ow.frame _ hk hs
  | box g t cs =>
    simp only [BlkOk] at hk ⊢
    obtain ⟨b, cur, e, fr, h1, h2, h3, h4, h5, h6⟩ := hk
    exact ⟨b, cur, e, fr, hh.trans h1, (hs b (by rw [h6]; simp)).trans h2, h3, AVokL.evo E cs h4, h5, h6⟩
  | gone g => exact hk
  | lent g v sz n => exact hk
  | lentB g t => exact hk

/-- another world in which all that is owned or safe is as it was -/
theorem HM.world (H : HM c hd fp m w X) (ho : w'.os = w.os) (ht : w'.tape = w.tape) (hp : w'.output = w.output) (hz : w.heap.size ≤ w'.heap.size) (hs : ∀ k, k < w.heap.size → w'.heap[k]? = w.heap[k]?) :
    HM c hd fp m w' X ∧ Evo hd m w.heap hd m w'.heap := by
  have E := H.evo_heap (h' := w'.heap) (fun nm k hk => hs k (H.lt hk))
  refine ⟨{ H with
    blk := fun nm b hb => BlkOk.frame H E hb rfl (fun k hk => hs k (H.lt hk))
    xreg := fun k hk => ⟨(H.xreg k hk).1, Nat.lt_of_lt_of_le (H.xreg k hk).2 hz⟩
    os := ho.trans H.os
    tape := ht.trans H.tape
    output := hp.trans H.output
    size := Nat.le_trans H.size hz
    same := fun k hk => (hs k (Nat.lt_of_lt_of_le hk.2 H.size)).trans (H.same k hk) }, E⟩

/-- THE STEP: the block of one name (nm) becomes blk, of the value v, with the blocks F; what it had, or lay in the pocket (Y), or is new, may be used, or go into the pocket (Y'). -/
theorem HM.step (H : HM c hd fp m w (Y ++ X)) (nm : Nat) {blk : Blk} {v : Value} {F Y' : List Nat} (ho : w'.os = w.os) (ht : w'.tape = w.tape) (hp : w'.output = w.output) (hz : w.heap.size ≤ w'.heap.size)
    (hs : ∀ k, k < w.heap.size → k ∉ fp nm → k ∉ Y → w'.heap[k]? = w.heap[k]?) (hn : (F ++ Y').Nodup) (hsub : ∀ k, k ∈ F ++ Y' → k ∈ fp nm ∨ k ∈ Y ∨ w.heap.size ≤ k) (hlt : ∀ k, k ∈ Y' → k < w'.heap.size)
    (hg : ∀ b0, m nm = some b0 → b0.gen ≤ blk.gen ∧ (b0.gen = blk.gen → EvB (hd nm) v w.heap w'.heap b0 blk))
    (hb : Evo hd m w.heap (upd hd nm v) (upd m nm (some blk)) w'.heap → BlkOk c (upd hd nm v) (upd m nm (some blk)) w'.heap nm blk F) :
    HM c (upd hd nm v) (upd fp nm F) (upd m nm (some blk)) w' (Y' ++ X) ∧ Evo hd m w.heap (upd hd nm v) (upd m nm (some blk)) w'.heap := by
  have far : ∀ nm', nm' ≠ nm → ∀ k, k ∈ fp nm' → w'.heap[k]? = w.heap[k]? := fun nm' hne k hk =>
    hs k (H.lt hk) (H.dj nm' nm hne k hk) (fun hy => H.xd nm' k hk (List.mem_append_left _ hy))
  have E : Evo hd m w.heap (upd hd nm v) (upd m nm (some blk)) w'.heap := by
    intro nm' b hb'
    by_cases he : nm' = nm
    · subst he
      obtain ⟨g1, g2⟩ := hg b hb'
      exact ⟨blk, upd_same _ _ _, g1, fun e => by rw [upd_same]; exact g2 e⟩
    · refine ⟨b, by rw [upd_ne _ _ he]; exact hb', Nat.le_refl _, fun _ => ?_⟩
      rw [upd_ne _ _ he]
      cases b with
      | row g v2 sz n cs =>
        refine ⟨rfl, rfl, rfl, Nat.le_refl _, fun _ b N C hv o ho => cellAt_frame ?_⟩
        have hn : 0 < n := by
          rcases Nat.eq_zero_or_pos n with h | h
          · subst h; simp at ho
          · exact h
        exact far nm' he b (row_mem (H.blk nm' _ hb') hv hn)
      | box g t cs => rfl
      | gone g => trivial
      | lent g v sz n => exact ⟨rfl, rfl, rfl, Nat.le_refl _⟩
      | lentB g t => rfl
  have hyx : ∀ k, k ∈ Y → k ∉ X := fun k hy hx => (List.nodup_append.1 H.xnd).2.2 k hy k hx rfl
  have hX : ∀ k, k ∈ X → k < w.heap.size := fun k hk => (H.xreg k (List.mem_append_right _ hk)).2
  have hFX : ∀ k, k ∈ F ++ Y' → k ∉ X := fun k hk hx => by
    rcases hsub k hk with h | h | h
    · exact H.xd nm k h (List.mem_append_right _ hx)
    · exact hyx k h hx
    · have := hX k hx; omega
  have hreg : ∀ k, k ∈ F ++ Y' → k ∈ c.F0 ∨ c.w0.heap.size ≤ k := fun k hk => by
    rcases hsub k hk with h | h | h
    · exact H.reg nm k h
    · exact (H.xreg k (List.mem_append_left _ h)).1
    · exact .inr (Nat.le_trans H.size h)
  have hdj : ∀ nm', nm' ≠ nm → ∀ k, k ∈ fp nm' → k ∉ F ++ Y' := fun nm' hne k hk hf => by
    rcases hsub k hf with h | h | h
    · exact H.dj nm' nm hne k hk h
    · exact H.xd nm' k hk (List.mem_append_left _ h)
    · have := H.lt hk; omega
  refine ⟨{ tg1 := H.tg1
            blk := ?_, non := ?_, nd := ?_, dj := ?_, xnd := ?_, xd := ?_, reg := ?_, xreg := ?_
            os := ho.trans H.os, tape := ht.trans H.tape, output := hp.trans H.output, size := Nat.le_trans H.size hz, same := ?_ }, E⟩
  · intro nm' b hb'
    by_cases he : nm' = nm
    · subst he
      rw [upd_same] at hb' ⊢
      injection hb' with hb'
      subst hb'
      exact hb E
    · rw [upd_ne _ _ he] at hb' ⊢
      exact BlkOk.frame H E hb' (upd_ne _ _ he) (far nm' he)
  · intro nm' h0
    by_cases he : nm' = nm
    · subst he; rw [upd_same] at h0; cases h0
    · rw [upd_ne _ _ he] at h0 ⊢; exact H.non nm' h0
  · intro nm'
    by_cases he : nm' = nm
    · subst he; rw [upd_same]; exact (List.nodup_append.1 hn).1
    · rw [upd_ne _ _ he]; exact H.nd nm'
  · intro n1 n2 hne k hk
    by_cases h1 : n1 = nm
    · subst h1
      rw [upd_same] at hk
      rw [upd_ne _ _ (Ne.symm hne)]
      exact fun h2 => hdj n2 (Ne.symm hne) k h2 (List.mem_append_left _ hk)
    · rw [upd_ne _ _ h1] at hk
      by_cases h2 : n2 = nm
      · subst h2; rw [upd_same]; exact fun h => hdj n1 h1 k hk (List.mem_append_left _ h)
      · rw [upd_ne _ _ h2]; exact H.dj n1 n2 hne k hk
  · rw [List.nodup_append]
    exact ⟨(List.nodup_append.1 hn).2.1, (List.nodup_append.1 H.xnd).2.1, fun a ha b hb he => hFX a (List.mem_append_right _ ha) (he ▸ hb)⟩
  · intro nm' k hk hk2
    rcases List.mem_append.1 hk2 with h | h
    · by_cases he : nm' = nm
      · subst he; rw [upd_same] at hk
        exact (List.nodup_append.1 hn).2.2 k hk k h rfl
      · rw [upd_ne _ _ he] at hk
        exact hdj nm' he k hk (List.mem_append_right _ h)
    · by_cases he : nm' = nm
      · subst he; rw [upd_same] at hk
        exact hFX k (List.mem_append_left _ hk) h
      · rw [upd_ne _ _ he] at hk
        exact H.xd nm' k hk (List.mem_append_right _ h)
  · intro nm' k hk
    by_cases he : nm' = nm
    · subst he; rw [upd_same] at hk; exact hreg k (List.mem_append_left _ hk)
    · rw [upd_ne _ _ he] at hk; exact H.reg nm' k hk
  · intro k hk
    rcases List.mem_append.1 hk with h | h
    · exact ⟨hreg k (List.mem_append_right _ h), hlt k h⟩
    · exact ⟨(H.xreg k (List.mem_append_right _ h)).1, Nat.lt_of_lt_of_le (hX k h) hz⟩
  · intro k hk
    refine (hs k (Nat.lt_of_lt_of_le hk.2 H.size) (fun h => ?_) (fun h => ?_)).trans (H.same k hk)
    · rcases H.reg nm k h with h1 | h1
      · exact hk.1 h1
      · have := hk.2; omega
    · rcases (H.xreg k (List.mem_append_left _ h)).1 with h1 | h1
      · exact hk.1 h1
      · have := hk.2; omega

/-- as it was, but for the pocket's order -/
theorem HM.pocket (H : HM c hd fp m w X) {X' : List Nat} (hp : X'.Perm X) : HM c hd fp m w X' :=
  { H with
    xnd := hp.nodup_iff.2 H.xnd
    xd := fun nm k hk h => H.xd nm k hk (hp.mem_iff.1 h)
    xreg := fun k hk => H.xreg k (hp.mem_iff.1 hk) }
/-- what lies in the pocket may be left -/
theorem HM.leave (H : HM c hd fp m w (Y ++ X)) : HM c hd fp m w X :=
  { H with
    xnd := (List.nodup_append.1 H.xnd).2.1
    xd := fun nm k hk h => H.xd nm k hk (List.mem_append_right _ h)
    xreg := fun k hk => H.xreg k (List.mem_append_right _ hk) }
/-- the block of a name goes out -/
theorem HM.out (H : HM c hd fp m w X) {nm g : Nat} {b : Blk} (hb : m nm = some b) (hg : b.gen = g) : HM c hd (upd fp nm []) (upd m nm (some (.gone g))) w (fp nm ++ X) ∧ Evo hd m w.heap hd (upd m nm (some (.gone g))) w.heap := by
  have hh : upd hd nm (hd nm) = hd := by funext k; unfold upd; split <;> simp_all
  have := HM.step (Y := []) (X := X) (w' := w) (by simpa using H) nm (blk := .gone g) (v := hd nm) (F := []) (Y' := fp nm) rfl rfl rfl (Nat.le_refl _) (fun _ _ _ _ => rfl) (by simpa using H.nd nm)
    (fun k hk => .inl (by simpa using hk)) (fun k hk => H.lt hk) (fun b0 h0 => by
      rw [hb] at h0; injection h0 with h0; subst h0
      refine ⟨Nat.le_of_eq hg, fun _ => ?_⟩
      cases b <;> trivial) (fun _ => rfl)
  rw [hh] at this
  exact this
end
end Go.AM
/- AN ABSTRACT MACHINE, 6: values go into trees of their own; loads, stores. No condition of its own. -/
namespace Go.AM
open Go AM

/-! ### one tree of many is exchanged -/
theorem OwL.set {h tg} : ∀ {ts : List Tr} {vs F} {j : Nat} {t}, OwL h tg ts vs F → ts[j]? = some t → ∃ v G F', vs[j]? = some v ∧ Ow h tg t v G ∧ F.Perm (G ++ F') ∧
    ∀ t' v' G', Ow h tg t' v' G' → ∃ F2, OwL h tg (ts.set j t') (vs.set j v') F2 ∧ F2.Perm (G' ++ F')
  | [], vs, F, j, t, H, hj => by simp at hj
  | t0 :: ts, vs, F, j, t, H, hj => by
    simp only [OwL] at H
    obtain ⟨v, us, F1, F2, rfl, h1, h2, rfl⟩ := H
    cases j with
    | zero =>
      simp at hj; subst hj
      refine ⟨v, F1, F2, rfl, h1, List.Perm.refl _, fun t' v' G' h' => ⟨G' ++ F2, ?_, List.Perm.refl _⟩⟩
      simp only [List.set_cons_zero, OwL]
      exact ⟨v', us, G', F2, rfl, h', h2, rfl⟩
    | succ j =>
      simp at hj
      obtain ⟨u, G, F', e1, e2, e3, e4⟩ := OwL.set h2 hj
      refine ⟨u, G, F1 ++ F', by simpa using e1, e2, ?_, fun t' v' G' h' => ?_⟩
      · exact (e3.append_left F1).trans (by rw [← List.append_assoc, ← List.append_assoc]; exact List.perm_append_comm.append_right F')
      · obtain ⟨F3, k1, k2⟩ := e4 t' v' G' h'
        refine ⟨F1 ++ F3, ?_, (k2.append_left F1).trans (by rw [← List.append_assoc, ← List.append_assoc]; exact List.perm_append_comm.append_right F')⟩
        simp only [List.set_cons_succ, OwL]
        exact ⟨v, us.set j v', F1, F3, rfl, h1, k1, rfl⟩
theorem el_get (cs : List Tr) (sz i j : Nat) (hj : j < sz) : (el cs sz i)[j]? = cs[i * sz + j]? := by
  unfold el
  rw [List.getElem?_take, if_pos hj, List.getElem?_drop]
theorem el_get_lt {cs : List Tr} {sz i j : Nat} {t : Tr} (h : (el cs sz i)[j]? = some t) : j < sz := by
  unfold el at h
  rw [List.getElem?_take] at h
  split at h
  · assumption
  · cases h
theorem upEl_set (cs : List Tr) (sz i j : Nat) (t : Tr) (hj : j < sz) (hl : (i + 1) * sz ≤ cs.length) : upEl cs sz i ((el cs sz i).set j t) = cs.set (i * sz + j) t := by
  have e1 : (i + 1) * sz = i * sz + sz := Nat.succ_mul _ _
  unfold upEl el
  apply List.ext_getElem?
  intro k
  have l1 : (cs.take (i * sz)).length = i * sz := by rw [List.length_take]; omega
  have l2 : (((cs.drop (i * sz)).take sz).set j t).length = sz := by rw [List.length_set, List.length_take, List.length_drop]; omega
  rw [List.append_assoc]
  by_cases h1 : k < i * sz
  · rw [List.getElem?_append_left (by omega), List.getElem?_take, if_pos h1, List.getElem?_set, if_neg (by omega)]
  · rw [List.getElem?_append_right (by omega), l1]
    by_cases h2 : k < i * sz + sz
    · rw [List.getElem?_append_left (by omega), List.getElem?_set, List.getElem?_set, List.length_take, List.length_drop]
      by_cases h3 : k = i * sz + j
      · subst h3
        rw [if_pos (by omega), if_pos (by omega), if_pos rfl, if_pos (by omega)]
      · rw [if_neg (by omega), if_neg (by omega), List.getElem?_take, if_pos (by omega), List.getElem?_drop, show i * sz + (k - i * sz) = k by omega]
    · rw [List.getElem?_append_right (by omega), l2, List.getElem?_drop, List.getElem?_set, if_neg (by omega), show i * sz + sz + (k - i * sz - sz) = k by omega]

section
variable {P : Program} {c : Ctx} {hd : Nat → Value} {fp : Nat → List Nat} {m m' : Mem} {w : World} {X : List Nat} {α : Type} {u : Nat → Bool} {y : α} {A W : List Nat}

/-- a row that isn't empty has a block -/
theorem row_block {h : Heap} {tg : List Value} {sz n : Nat} {cs : List Tr} {v : Value} {F : List Nat} (H : Ow h tg (.row sz n cs) v F) (hn : 0 < n) :
    ∃ g cap cur e fr G, v = .slice (some ⟨g, 0, none⟩) n cap ∧ h[g]? = some (.cells cur e fr) ∧ unfr fr cur.size sz ∧ cur.size = cap * sz ∧ n ≤ cap ∧ cap ≤ maxL ∧ OwL h tg cs (cur.toList.take (n * sz)) G ∧ F = g :: G := by
  simp only [Ow] at H
  rcases H.2 with ⟨A, _, h0, _⟩ | H
  · omega
  · exact H

theorem getInn_ok {nm g i j vv sz : Nat} {v : Value} {k : Nat → Nat → Nat → List Tr → List Tr → Nat → List Tr → AM α} (H : HM c hd fp m w X) (hx : AVok c hd m w.heap (.inn nm g i j vv) v) (hE : Ex P (getInn nm g i j vv sz k) u m y m' A W) :
    ∃ sz' n cs n2 cs2 B, A = nm :: B ∧ m nm = some (.row g vv sz' n cs) ∧ i < n ∧ j < sz' ∧ (el cs sz' i)[j]? = some (.row sz n2 cs2) ∧ Ex P (k sz' n vv cs (el cs sz' i) n2 cs2) u m y m' B W ∧
      ∃ g0 cap cur e fr G, hd nm = .slice (some ⟨g0, 0, none⟩) n cap ∧ w.heap[g0]? = some (.cells cur e fr) ∧ unfr fr cur.size sz' ∧ cur.size = cap * sz' ∧ n ≤ cap ∧ cap ≤ maxL ∧ OwL w.heap c.tags cs (cur.toList.take (n * sz')) G ∧ fp nm = g0 :: G ∧
        cs.length = n * sz' ∧ cells1 cs ∧ (cur.toList.take (n * sz'))[i * sz' + j]? = some v := by
  simp only [getInn, Ex] at hE
  obtain ⟨B, rfl, hE⟩ := hE
  cases hm : m nm with
  | none => rw [hm] at hE; simp only [Ex] at hE
  | some b =>
    rw [hm] at hE
    cases b with
    | box _ _ _ => simp only [Ex] at hE
    | gone _ => simp only [Ex] at hE
    | lent _ _ _ _ => simp only [Ex] at hE
    | lentB _ _ => simp only [Ex] at hE
    | row g' v' sz' n cs =>
      simp only at hE
      split at hE
      · rename_i hg
        obtain ⟨rfl, rfl⟩ := hg
        simp only [Ex] at hE
        cases hL : (el cs sz' i)[j]? with
        | none => rw [hL] at hE; simp only [Ex] at hE
        | some t =>
          rw [hL] at hE
          cases t <;> simp only [Ex] at hE
          case row s2 n2 cs2 =>
            split at hE
            · rename_i hs
              subst hs
              simp only [AVok] at hx
              obtain ⟨b, hb, hg, hk⟩ := hx.2
              rw [hm] at hb; injection hb with hb; subst hb
              obtain ⟨_, h3⟩ := hk rfl
              obtain ⟨h4, h5, b, N, C, h6, h7⟩ := h3 rfl
              have hblk := H.blk nm _ hm
              simp only [BlkOk] at hblk
              obtain ⟨g0, cap, cur, e, fr, G, k1, k2, k3, k4, k5, k6, k7, k8⟩ := row_block hblk (by omega)
              have hl : cs.length = n * sz' ∧ cells1 cs := by simp only [Ow] at hblk; exact hblk.1
              refine ⟨sz', n, cs, n2, cs2, B, rfl, rfl, h4, h5, hL, hE, g0, cap, cur, e, fr, G, k1, k2, k3, k4, k5, k6, k7, k8, hl.1, hl.2, ?_⟩
              have : b = g0 := by rw [k1] at h6; injection h6 with h6; injection h6 with h6; injection h6 with h6; exact h6.symm
              subst this
              rw [cellAt_of k2] at h7
              rw [List.getElem?_take, if_pos (mul_add_lt h4 h5), Array.getElem?_toList]
              exact h7
            · simp only [Ex] at hE
      · simp only [Ex] at hE

theorem takeInn_ok {nm g i j vv sz : Nat} {v : Value} {k : Nat → List Tr → AM α} (H : HM c hd fp m w X) (hx : AVok c hd m w.heap (.inn nm g i j vv) v) (hE : Ex P (takeInn nm g i j vv sz k) u m y m' A W) :
    ∃ n cs m1 fp1 F A1 W1, Ex P (k n cs) u m1 y m' A1 W1 ∧ HM c hd fp1 m1 w (F ++ X) ∧ Ow w.heap c.tags (.row sz n cs) v F ∧ Evo hd m w.heap hd m1 w.heap ∧ ∃ sz' N CS, m1 = upd m nm (some (.row g vv sz' N CS)) ∧ i < N ∧ j < sz' ∧ (el CS sz' i)[j]? = some .hole := by
  obtain ⟨sz', N, cs, n2, cs2, B, rfl, hm, hi, hj, hL, hE, g0, cap, cur, e, fr, G, k1, k2, k3, k4, k5, k6, k7, k8, k9, k10, k11⟩ := getInn_ok H hx hE
  simp only [Ex] at hE
  obtain ⟨B2, V, _, _, hE⟩ := hE
  have hle : (i + 1) * sz' ≤ cs.length := by rw [k9]; exact Nat.mul_le_mul_right _ hi
  rw [upEl_set cs sz' i j .hole hj hle] at hE
  have hL2 : cs[i * sz' + j]? = some (.row sz n2 cs2) := by rw [← el_get cs sz' i j hj]; exact hL
  obtain ⟨v0, G1, G2, q1, q2, q3, q4⟩ := OwL.set k7 hL2
  have hv : v0 = v := by rw [k11] at q1; injection q1 with q1; exact q1.symm
  subst hv
  have h1c : v0.oneCell' = true := by
    simp only [Ow] at q2
    rcases q2.2 with ⟨A, rfl, _⟩ | ⟨g, cap, cur, e, fr, G, rfl, _⟩ <;> rfl
  obtain ⟨F2, r1, r2⟩ := q4 .hole v0 [] (by simp [Ow, h1c])
  have hset : (cur.toList.take (N * sz')).set (i * sz' + j) v0 = cur.toList.take (N * sz') := by
    apply List.ext_getElem?
    intro x
    rw [List.getElem?_set]
    split
    · subst_vars
      split
      · exact k11.symm
      · rename_i hh
        rw [List.getElem?_eq_none (Nat.le_of_not_lt hh)] at k11; cases k11
    · rfl
  rw [hset] at r1
  have hnd := H.nd nm
  rw [k8] at hnd
  have hGp : G.Perm (G1 ++ F2) := q3.trans ((by simpa using r2.symm : G2.Perm F2).append_left G1)
  have hh : upd hd nm (hd nm) = hd := by funext x; unfold upd; split <;> simp_all
  have hmem : ∀ x, x ∈ G ↔ x ∈ G1 ∨ x ∈ F2 := fun x => by rw [hGp.mem_iff, List.mem_append]
  have hG1 : ∀ x, x ∈ G1 → x ∈ fp nm := fun x hx => by rw [k8]; exact List.mem_cons_of_mem _ ((hmem x).2 (.inl hx))
  have st := HM.step (Y := []) (X := X) (w' := w) (by simpa using H) nm (blk := .row g vv sz' N (cs.set (i * sz' + j) .hole)) (v := hd nm) (F := g0 :: F2) (Y' := G1) rfl rfl rfl (Nat.le_refl _) (fun _ _ _ _ => rfl)
    (by
      rw [List.cons_append]
      have h2 := (hGp.trans List.perm_append_comm).nodup_iff.1 (List.nodup_cons.1 hnd).2
      refine List.nodup_cons.2 ⟨fun hx => (List.nodup_cons.1 hnd).1 ?_, h2⟩
      rw [hmem]
      rcases List.mem_append.1 hx with h | h
      · exact .inr h
      · exact .inl h)
    (fun x hx => .inl (by
      rw [k8]
      rw [List.cons_append] at hx
      rcases List.mem_cons.1 hx with rfl | hx
      · simp
      · refine List.mem_cons_of_mem _ ((hmem x).2 ?_)
        rcases List.mem_append.1 hx with h | h
        · exact .inr h
        · exact .inl h))
    (fun x hx => H.lt (hG1 x hx))
    (fun b0 h0 => by
      rw [hm] at h0; injection h0 with h0; subst h0
      exact ⟨Nat.le_refl _, fun _ => ⟨rfl, rfl, rfl, Nat.le_refl _, fun _ _ _ _ _ _ _ => rfl⟩⟩)
    (fun E => by
      simp only [BlkOk, upd_same, Ow]
      refine ⟨⟨by rw [List.length_set]; exact k9, fun t ht => ?_⟩, .inr ⟨g0, cap, cur, e, fr, F2, k1, k2, k3, k4, k5, k6, r1, rfl⟩⟩
      rcases List.mem_or_eq_of_mem_set ht with h | h
      · exact k10 t h
      · subst h; rfl)
  rw [hh] at st
  refine ⟨n2, cs2, _, _, G1, _, _, hE, st.1, q2, st.2, sz', N, _, rfl, hi, hj, ?_⟩
  rw [el_get _ _ _ _ hj, List.getElem?_set, if_pos rfl, if_pos (by rw [k9]; exact mul_add_lt hi hj)]

theorem getRow_ok {nm g sz : Nat} {k : Nat → Nat → List Tr → AM α} (hE : Ex P (getRow nm g sz k) u m y m' A W) : ∃ v n cs B, A = nm :: B ∧ m nm = some (.row g v sz n cs) ∧ Ex P (k v n cs) u m y m' B W := by
  simp only [getRow, Ex] at hE
  obtain ⟨B, rfl, hE⟩ := hE
  cases hm : m nm with
  | none => rw [hm] at hE; simp only [Ex] at hE
  | some b =>
    rw [hm] at hE
    cases b with
    | box _ _ _ => simp only [Ex] at hE
    | gone _ => simp only [Ex] at hE
    | lent _ _ _ _ => simp only [Ex] at hE
    | lentB _ _ => simp only [Ex] at hE
    | row g' v' sz' n cs =>
      simp only at hE
      split at hE
      · rename_i hg
        obtain ⟨rfl, rfl⟩ := hg
        exact ⟨v', n, cs, B, rfl, rfl, hE⟩
      · simp only [Ex] at hE
theorem getBox_ok {nm g : Nat} {k : Nat → List AV → AM α} (hE : Ex P (getBox nm g k) u m y m' A W) : ∃ t cs B, A = nm :: B ∧ m nm = some (.box g t cs) ∧ Ex P (k t cs) u m y m' B W := by
  simp only [getBox, Ex] at hE
  obtain ⟨B, rfl, hE⟩ := hE
  cases hm : m nm with
  | none => rw [hm] at hE; simp only [Ex] at hE
  | some b =>
    rw [hm] at hE
    cases b with
    | row _ _ _ _ _ => simp only [Ex] at hE
    | gone _ => simp only [Ex] at hE
    | lent _ _ _ _ => simp only [Ex] at hE
    | lentB _ _ => simp only [Ex] at hE
    | box g' t cs =>
      simp only at hE
      split at hE
      · rename_i hg
        subst hg
        exact ⟨t, cs, B, rfl, rfl, hE⟩
      · simp only [Ex] at hE
theorem mk_ok {nm : Nat} {b : Nat → Blk} {k : Nat → AM α} (hE : Ex P (mk nm b k) u m y m' A W) : ∃ g B V, Ex P (k g) u (upd m nm (some (b g))) y m' B V ∧ ∀ b0, m nm = some b0 → b0.gen < g := by
  simp only [mk, Ex] at hE
  obtain ⟨B, rfl, hE⟩ := hE
  cases hm : m nm with
  | none =>
    rw [hm] at hE; simp only [Ex] at hE
    obtain ⟨B2, V, _, _, hE⟩ := hE
    exact ⟨0, B2, V, hE, fun b0 h0 => by cases h0⟩
  | some b =>
    rw [hm] at hE; simp only [Ex] at hE
    obtain ⟨B2, V, _, _, hE⟩ := hE
    exact ⟨_, B2, V, hE, fun b0 h0 => by injection h0 with h0; subst h0; exact Nat.lt_succ_self _⟩

theorem own_eq {nm g : Nat} {v : Value} (hx : AVok c hd m w.heap (.own nm g) v) {vv sz n : Nat} {cs : List Tr} (hm : m nm = some (.row g vv sz n cs)) : v = hd nm := by
  simp only [AVok] at hx
  obtain ⟨b, hb, hg, hk⟩ := hx.2
  rw [hm] at hb; injection hb with hb; subst hb
  exact hk rfl

theorem toT_ok {ck : CK} {x : AV} {v : Value} {k : Tr → AM α} (H : HM c hd fp m w X) (hx : AVok c hd m w.heap x v) (hE : Ex P (toT ck x k) u m y m' A W) :
    ∃ t m1 fp1 F A1 W1, Ex P (k t) u m1 y m' A1 W1 ∧ HM c hd fp1 m1 w (F ++ X) ∧ Ow w.heap c.tags t v F ∧ t.cellB = true ∧ Evo hd m w.heap hd m1 w.heap := by
  unfold toT at hE
  split at hE
  · exact ⟨_, m, fp, [], A, W, hE, H, by simp only [AVok] at hx; simp [Ow, hx], rfl, Evo.refl _ _ _⟩
  · exact ⟨_, m, fp, [], A, W, hE, H, by simp only [AVok] at hx; simp [Ow, hx], rfl, Evo.refl _ _ _⟩
  · exact ⟨_, m, fp, [], A, W, hE, H, by simp only [AVok] at hx; simp [Ow, hx], rfl, Evo.refl _ _ _⟩
  · refine ⟨_, m, fp, [], A, W, hE, H, ?_, rfl, Evo.refl _ _ _⟩
    simp only [AVok] at hx
    obtain ⟨B, rfl⟩ := hx
    simp [Ow, cells1]
  · rename_i sz nm g
    obtain ⟨vv, n, cs, B, rfl, hm, hE⟩ := getRow_ok hE
    simp only [Ex] at hE
    obtain ⟨B2, V, _, _, hE⟩ := hE
    have hv := own_eq hx hm
    subst hv
    have hb := H.blk nm _ hm
    obtain ⟨h1, h2⟩ := H.out hm (g := g) rfl
    exact ⟨_, _, _, fp nm, _, _, hE, h1, hb, rfl, h2⟩
  · refine ⟨_, m, fp, [], A, W, hE, H, ?_, rfl, Evo.refl _ _ _⟩
    simp only [AVok] at hx
    simp [Ow, hx.2 _ rfl]
  · refine ⟨_, m, fp, [], A, W, hE, H, ?_, rfl, Evo.refl _ _ _⟩
    simp only [AVok] at hx
    obtain ⟨hx, _⟩ := hx
    simp only [Rd] at hx
    obtain ⟨_, A0, c0, vs, rfl, _⟩ := hx
    simp only [Ow, and_true]
    rfl
  · obtain ⟨n, cs, m1, fp1, F, A1, W1, h1, h2, h3, h4, _⟩ := takeInn_ok H hx hE
    exact ⟨_, m1, fp1, F, A1, W1, h1, h2, h3, rfl, h4⟩
  · simp only [Ex] at hE
end

theorem toTL_ok {P : Program} {c : Ctx} {hd : Nat → Value} {w : World} {α : Type} {u : Nat → Bool} {y : α} {m' : Mem} : ∀ (ck : List CK) (xs : List AV) {fp : Nat → List Nat} {m : Mem} {X : List Nat} {A W : List Nat} {vs : List Value} {k : List Tr → AM α}, HM c hd fp m w X → AVokL c hd m w.heap xs vs → Ex P (toTL ck xs k) u m y m' A W →
    ∃ ts m1 fp1 F A1 W1, Ex P (k ts) u m1 y m' A1 W1 ∧ HM c hd fp1 m1 w (F ++ X) ∧ OwL w.heap c.tags ts vs F ∧ cells1 ts ∧ Evo hd m w.heap hd m1 w.heap ∧ ts.length = ck.length
  | [], [], fp, m, X, A, W, vs, k, H, hx, hE => by
    simp only [toTL] at hE
    simp only [AVokL] at hx
    subst hx
    exact ⟨[], m, fp, [], A, W, hE, H, by simp [OwL], by simp [cells1], Evo.refl _ _ _, rfl⟩
  | ck :: cks, x :: xs, fp, m, X, A, W, vs, k, H, hx, hE => by
    simp only [toTL] at hE
    simp only [AVokL] at hx
    obtain ⟨v, us, rfl, h1, h2⟩ := hx
    obtain ⟨t, m1, fp1, F1, A1, W1, e1, e2, e3, e4, e5⟩ := toT_ok H h1 hE
    obtain ⟨ts, m2, fp2, F2, A2, W2, q1, q2, q3, q4, q5, q6⟩ := toTL_ok cks xs e2 (AVokL.evo e5 xs h2) e1
    refine ⟨t :: ts, m2, fp2, F1 ++ F2, A2, W2, q1, q2.pocket ?_, ?_, ?_, e5.trans q5, by simp [q6]⟩
    · rw [← List.append_assoc]; exact List.perm_append_comm.append_right X
    · simp only [OwL]; exact ⟨v, us, F1, F2, rfl, e3, q3, rfl⟩
    · intro t' ht
      rcases List.mem_cons.1 ht with rfl | ht
      · exact e4
      · exact q4 t' ht
  | [], x :: xs, fp, m, X, A, W, vs, k, H, hx, hE => by simp only [toTL, Ex] at hE
  | ck :: cks, [], fp, m, X, A, W, vs, k, H, hx, hE => by simp only [toTL, Ex] at hE
end Go.AM
/- AN ABSTRACT MACHINE, 7: the operations: what the machine does at each is what the abstract one says. No condition of its own. -/
namespace Go.AM
open Go AM

/-- what is to be shown of an operation: the machine comes to a value and a world that are as v and m' say -/
def Step (P : Program) (c : Ctx) (o : Oper) (a : Act) (hd : Nat → Value) (m : Mem) (w : World) (X : List Nat) (v : AV) (m' : Mem) : Prop :=
  ∀ (next : Act → World → Prop) (Q : Exit → Act → World → Prop), (∀ vv w' hd' fp', AVok c hd' m' w'.heap v vv → HM c hd' fp' m' w' X → Evo hd m w.heap hd' m' w'.heap → next (a.put o.dst vv) w') → o.wp P a w next Q

section
variable {P : Program} {c : Ctx} {hd : Nat → Value} {fp : Nat → List Nat} {m m' : Mem} {w : World} {X : List Nat} {u : Nat → Bool} {A W : List Nat} {v : AV} {o : Oper} {a : Act}

theorem Step.value {vv : Value} {w' : World} {hd' : Nat → Value} {fp' : Nat → List Nat} (hr : (execOp a.eval o).run P w = .ok (.value vv) w') (h1 : AVok c hd' m' w'.heap v vv) (h2 : HM c hd' fp' m' w' X) (h3 : Evo hd m w.heap hd' m' w'.heap) : Step P c o a hd m w X v m' := by
  intro next Q h
  unfold Oper.wp
  rw [hr]
  exact h vv w' hd' fp' h1 h2 h3
theorem Step.skip {w' : World} {hd' : Nat → Value} {fp' : Nat → List Nat} (hr : (execOp a.eval o).run P w = .ok .skip w') (h2 : HM c hd' fp' m' w' X) (h3 : Evo hd m w.heap hd' m' w'.heap) (hv : v = .any) : Step P c o a hd m w X v m' := by
  intro next Q h
  unfold Oper.wp
  rw [hr]
  exact h undef w' hd' fp' (by subst hv; simp [AVok]) h2 h3
/-- a value and nothing else -/
theorem Step.pure {vv : Value} (H : HM c hd fp m w X) (hr : (execOp a.eval o).run P w = .ok (.value vv) w) (h1 : AVok c hd m w.heap v vv) (hm : m' = m) : Step P c o a hd m w X v m' := by
  subst hm; exact Step.value hr h1 H (Evo.refl _ _ _)

/-! ### a new block -/
def pushW (w : World) (o : Obj) : World := { w with heap := w.heap.push o }
theorem push_at (w : World) (o : Obj) : (pushW w o).heap[w.heap.size]? = some o := by
  show (w.heap.push o)[w.heap.size]? = some o
  simp
theorem push_old (w : World) (o : Obj) (k : Nat) (hk : k < w.heap.size) : (pushW w o).heap[k]? = w.heap[k]? := by
  show (w.heap.push o)[k]? = w.heap[k]?
  rw [Array.getElem?_push, if_neg (by omega)]
theorem HM.new (H : HM c hd fp m w X) (ob : Obj) (nm : Nat) {blk : Blk} {v : Value} (hg : ∀ b0, m nm = some b0 → b0.gen < blk.gen)
    (hb : Evo hd m w.heap (upd hd nm v) (upd m nm (some blk)) (pushW w ob).heap → (pushW w ob).heap[w.heap.size]? = some ob → BlkOk c (upd hd nm v) (upd m nm (some blk)) (pushW w ob).heap nm blk [w.heap.size]) :
    HM c (upd hd nm v) (upd fp nm [w.heap.size]) (upd m nm (some blk)) (pushW w ob) X ∧ Evo hd m w.heap (upd hd nm v) (upd m nm (some blk)) (pushW w ob).heap := by
  have := HM.step (w := w) (Y := []) (X := X) (w' := pushW w ob) (by simpa using H) nm (blk := blk) (v := v) (F := [w.heap.size]) (Y' := []) rfl rfl rfl (by simp [pushW]) (fun k hk _ _ => push_old w ob k hk) (by simp)
    (fun k hk => .inr (.inr (by simp at hk; omega))) (fun k hk => by cases hk)
    (fun b0 h0 => ⟨Nat.le_of_lt (hg b0 h0), fun he => absurd he (Nat.ne_of_lt (hg b0 h0))⟩) (fun E => hb E (push_at w ob))
  simpa using this
/-- a new block that owns what lay in the pocket -/
theorem HM.newRow {F : List Nat} (H : HM c hd fp m w (F ++ X)) (nm : Nat) {g v sz n cap : Nat} {cs : List Tr} {cur : Array Value} {e : Nat} {fr : Nat × Nat} (hg : ∀ b0, m nm = some b0 → b0.gen < g) (hfr : unfr fr cur.size sz) (hz : cur.size = cap * sz) (hc : n ≤ cap) (hm : cap ≤ maxL)
    (h1 : cells1 cs) (hl : cs.length = n * sz) (ho : OwL w.heap c.tags cs (cur.toList.take (n * sz)) F) :
    HM c (upd hd nm (.slice (some ⟨w.heap.size, 0, none⟩) n cap)) (upd fp nm (w.heap.size :: F)) (upd m nm (some (.row g v sz n cs))) (pushW w (.cells cur e fr)) X ∧
      Evo hd m w.heap (upd hd nm (.slice (some ⟨w.heap.size, 0, none⟩) n cap)) (upd m nm (some (.row g v sz n cs))) (pushW w (.cells cur e fr)).heap := by
  have hF := (List.nodup_append.1 H.xnd).1
  have hlt : ∀ k, k ∈ F → k < w.heap.size := fun k hk => (H.xreg k (List.mem_append_left _ hk)).2
  have := HM.step (w := w) (w' := pushW w (.cells cur e fr)) H nm (blk := .row g v sz n cs) (v := .slice (some ⟨w.heap.size, 0, none⟩) n cap) (F := w.heap.size :: F) (Y' := []) rfl rfl rfl (by simp [pushW]) (fun k hk _ _ => push_old w _ k hk)
    (by simp only [List.append_nil, List.nodup_cons]; exact ⟨fun hk => Nat.lt_irrefl _ (hlt _ hk), hF⟩)
    (fun k hk => by
      simp only [List.append_nil] at hk
      rcases List.mem_cons.1 hk with rfl | hk
      · exact .inr (.inr (Nat.le_refl _))
      · exact .inr (.inl hk)) (fun k hk => by cases hk)
    (fun b0 h0 => ⟨Nat.le_of_lt (hg b0 h0), fun he => absurd he (Nat.ne_of_lt (hg b0 h0))⟩) (fun E => by
      simp only [BlkOk, upd_same, Ow]
      exact ⟨⟨hl, h1⟩, .inr ⟨w.heap.size, cap, cur, e, fr, F, rfl, push_at w _, hfr, hz, hc, hm, OwL.frame _ ho (fun k hk => push_old w _ k (hlt k hk)), rfl⟩⟩)
  simpa using this
/-- a slice of no element, that is none's -/
theorem HM.newNil (H : HM c hd fp m w X) (nm : Nat) {g v sz : Nat} {B : Option Addr} (hg : ∀ b0, m nm = some b0 → b0.gen < g) :
    HM c (upd hd nm (.slice B 0 0)) (upd fp nm []) (upd m nm (some (.row g v sz 0 []))) w X ∧ Evo hd m w.heap (upd hd nm (.slice B 0 0)) (upd m nm (some (.row g v sz 0 []))) w.heap := by
  have := HM.step (w := w) (Y := []) (X := X) (w' := w) (by simpa using H) nm (blk := .row g v sz 0 []) (v := .slice B 0 0) (F := []) (Y' := []) rfl rfl rfl (Nat.le_refl _) (fun _ _ _ _ => rfl) (by simp)
    (fun k hk => by cases hk) (fun k hk => by cases hk)
    (fun b0 h0 => ⟨Nat.le_of_lt (hg b0 h0), fun he => absurd he (Nat.ne_of_lt (hg b0 h0))⟩) (fun E => by simp [BlkOk, upd_same, Ow, cells1])
  simpa using this
theorem own_new {hd : Nat → Value} {m : Mem} {h : Heap} {nm g : Nat} {v : Value} {vv sz n : Nat} {cs : List Tr} (h1 : v.oneCell' = true) : AVok c (upd hd nm v) (upd m nm (some (.row g vv sz n cs))) h (.own nm g) v := by
  simp only [AVok]
  exact ⟨h1, _, upd_same _ _ _, Nat.le_refl _, fun _ => by rw [upd_same]; exact rfl⟩
theorem ptr_new {hd : Nat → Value} {m : Mem} {h : Heap} {nm g t b : Nat} {cs : List AV} : AVok c (upd hd nm (.pointer (some ⟨b, 0, none⟩))) (upd m nm (some (.box g t cs))) h (.ptr nm g 0 0) (.pointer (some ⟨b, 0, none⟩)) := by
  simp only [AVok]
  exact ⟨⟨_, rfl⟩, _, upd_same _ _ _, Nat.le_refl _, fun _ => ⟨rfl, b, upd_same _ _ _, rfl⟩⟩

/-! ### cells -/
theorem run_loadVar {t : Nat} {i : TI} (H : TI.Ok P t i) (w : World) (a : Addr) (vs : List Value) (hl : vs.length = i.size) (hc : ∀ j u, vs[j]? = some u → cellAt w.heap (a.add j) = some u) :
    (loadVar t a).run P w = .ok (if i.kd.agg then .agg vs.toArray else vs.headD undef) w := by
  unfold loadVar
  simp only [Sem.run_bind, H.isAgg, Result.andThen_ok]
  cases hk : i.kd.agg with
  | true =>
    simp only [if_true, Sem.run_bind, H.size, Result.andThen_ok, Sem.run_pure]
    rw [← hl, run_loadCells_list w a vs (fun j u hj => hc j u hj)]
    rfl
  | false =>
    have h1 := H.one hk
    match vs, hl with
    | [x], hl =>
      have := hc 0 x rfl
      have ha : a.add 0 = a := by unfold Addr.add; simp
      rw [ha] at this
      simp only [Bool.false_eq_true, if_false, run_load, cell_eq, this, List.headD_cons]
    | [], hl => simp at hl; omega
    | _ :: _ :: _, hl => simp at hl; omega

theorem one_ok {α : AV} {agg : Bool} {xs : List AV} (hE : Ex P (one agg xs) u m v m' A W) : m' = m ∧ (if agg then v = .agg xs else xs = [v]) := by
  unfold one at hE
  split at hE
  · simp only [Ex] at hE; simp [hE.1, hE.2.1]
  · split at hE
    · simp only [Ex] at hE; simp [hE.1, hE.2.1]
    · simp only [Ex] at hE
/-- a value of cells -/
theorem one_val {hd : Nat → Value} {m : Mem} {h : Heap} {agg : Bool} {xs : List AV} {vs : List Value} (hE : Ex P (one agg xs) u m v m' A W) (hx : AVokL c hd m h xs vs) (h1 : ∀ u, u ∈ vs → u.oneCell' = true) : m' = m ∧ AVok c hd m h v (if agg then .agg vs.toArray else vs.headD undef) := by
  obtain ⟨rfl, h2⟩ := one_ok (α := .any) hE
  refine ⟨rfl, ?_⟩
  cases agg with
  | true =>
    simp only [if_true] at h2 ⊢
    subst h2
    simp only [AVok]
    exact ⟨_, rfl, by simpa using hx, by simpa using h1⟩
  | false =>
    simp only [Bool.false_eq_true, if_false] at h2 ⊢
    subst h2
    simp only [AVokL] at hx
    obtain ⟨x, us, rfl, h3, rfl⟩ := hx
    exact h3

theorem elAVs_ok {nm g vv i sz n : Nat} {b N C : Nat} {cs : List Tr} {h : Heap} {hd : Nat → Value} {m : Mem} (hm : m nm = some (.row g vv sz n cs)) (hi : i < n) (hh : hd nm = .slice (some ⟨b, 0, none⟩) N C) (ht : ∀ u, u ∈ c.tags → u.oneCell' = true) : ∀ (ts : List Tr) {vs : List Value} {F : List Nat} (j : Nat), cells1 ts → OwL h c.tags ts vs F → j + ts.length ≤ sz → (∀ k x, vs[k]? = some x → cellAt h ⟨b, i * sz + j + k, none⟩ = some x) →
    AVokL c hd m h (elAVs nm g vv i j ts) vs
  | [], vs, F, j, _, H, _, _ => by simp only [OwL] at H; simp only [elAVs, AVokL]; exact H.1
  | t :: ts, vs, F, j, h1, H, hj, hc => by
    simp only [OwL] at H
    obtain ⟨x, us, F1, F2, rfl, q1, q2, _⟩ := H
    simp only [List.length_cons] at hj
    simp only [elAVs, AVokL]
    refine ⟨x, us, rfl, ?_, elAVs_ok hm hi hh ht ts (j + 1) (fun t' h' => h1 t' (List.mem_cons_of_mem _ h')) q2 (by omega) (fun k y hk => by have := hc (k + 1) y (by simpa using hk); rw [show i * sz + j + (k + 1) = i * sz + (j + 1) + k by omega] at this; exact this)⟩
    have hone := Ow.oneCell (h1 t (by simp)) ht q1
    cases t <;> simp only [elAV, AVok]
    case int => simp only [Ow] at q1; exact q1.1
    case bool => simp only [Ow] at q1; exact q1.1
    case str => simp only [Ow] at q1; exact q1.1
    case row => exact ⟨hone, _, hm, Nat.le_refl _, fun _ => ⟨Nat.le_refl _, fun _ => ⟨hi, by omega, b, N, C, hh, by have := hc 0 x rfl; simpa using this⟩⟩⟩
theorem OwL.el {h : Heap} {tg : List Value} {cs : List Tr} {vs : List Value} {F : List Nat} (H : OwL h tg cs vs F) (sz i : Nat) : ∃ G, OwL h tg (el cs sz i) ((vs.drop (i * sz)).take sz) G := by
  have hl := OwL.length H
  have e1 : cs = cs.take (i * sz) ++ cs.drop (i * sz) := (List.take_append_drop _ _).symm
  rw [e1] at H
  obtain ⟨v1, v2, F1, F2, rfl, rfl, h1, h2⟩ := OwL.split H
  have l1 := OwL.length h1
  have l2 := OwL.length h2
  rw [List.length_take] at l1
  rw [List.length_drop] at l2
  have hd : (v1 ++ v2).drop (i * sz) = v2 := by
    by_cases hle : i * sz ≤ cs.length
    · exact List.drop_left' (by omega)
    · have : v2 = [] := List.length_eq_zero_iff.1 (by omega)
      subst this
      simp; omega
  rw [hd]
  have e2 : cs.drop (i * sz) = (cs.drop (i * sz)).take sz ++ (cs.drop (i * sz)).drop sz := (List.take_append_drop _ _).symm
  rw [e2] at h2
  obtain ⟨v3, v4, G3, G4, rfl, _, h3, h4⟩ := OwL.split h2
  have l3 := OwL.length h3
  have l4 := OwL.length h4
  rw [List.length_take, List.length_drop] at l3
  rw [List.length_drop, List.length_drop] at l4
  refine ⟨G3, ?_⟩
  unfold Go.AM.el
  have : (v3 ++ v4).take sz = v3 := by
    by_cases hle : sz ≤ cs.length - i * sz
    · exact List.take_left' (by omega)
    · have : v4 = [] := List.length_eq_zero_iff.1 (by omega)
      subst this
      rw [List.append_nil]
      exact List.take_of_length_le (by omega)
  rw [this]
  exact h3
theorem OwL.drop {h : Heap} {tg : List Value} : ∀ {cs : List Tr} {vs : List Value} {F : List Nat} (k : Nat), OwL h tg cs vs F → ∃ G, OwL h tg (cs.drop k) (vs.drop k) G
  | cs, vs, F, 0, H => ⟨F, by simpa using H⟩
  | [], vs, F, k + 1, H => ⟨[], by simp only [OwL] at H; simp [OwL, H.1]⟩
  | t :: ts, vs, F, k + 1, H => by
    simp only [OwL] at H
    obtain ⟨x, us, F1, F2, rfl, q1, q2, _⟩ := H
    simpa using OwL.drop k q2
theorem OwL.take {h : Heap} {tg : List Value} : ∀ {cs : List Tr} {vs : List Value} {F : List Nat} (k : Nat), OwL h tg cs vs F → ∃ G, OwL h tg (cs.take k) (vs.take k) G
  | cs, vs, F, 0, H => ⟨[], by simp [OwL]⟩
  | [], vs, F, k + 1, H => ⟨[], by simp only [OwL] at H; simp [OwL, H.1]⟩
  | t :: ts, vs, F, k + 1, H => by
    simp only [OwL] at H
    obtain ⟨x, us, F1, F2, rfl, q1, q2, _⟩ := H
    obtain ⟨G, q3⟩ := OwL.take k q2
    refine ⟨F1 ++ G, ?_⟩
    simp only [List.take_succ_cons, OwL]
    exact ⟨x, _, F1, G, rfl, q1, q3, rfl⟩
theorem RdL.drop {h : Heap} {S : Nat → Prop} : ∀ {cs : List Tr} {vs : List Value} (k : Nat), RdL h S cs vs → RdL h S (cs.drop k) (vs.drop k)
  | cs, vs, 0, H => by simpa using H
  | [], vs, k + 1, H => by simp only [RdL] at H; simp [RdL, H]
  | t :: ts, vs, k + 1, H => by
    simp only [RdL] at H
    obtain ⟨x, us, rfl, q1, q2⟩ := H
    simpa using RdL.drop k q2
theorem RdL.take {h : Heap} {S : Nat → Prop} : ∀ {cs : List Tr} {vs : List Value} (k : Nat), RdL h S cs vs → RdL h S (cs.take k) (vs.take k)
  | cs, vs, 0, H => by simp [RdL]
  | [], vs, k + 1, H => by simp only [RdL] at H; simp [RdL, H]
  | t :: ts, vs, k + 1, H => by
    simp only [RdL] at H
    obtain ⟨x, us, rfl, q1, q2⟩ := H
    simp only [List.take_succ_cons, RdL]
    exact ⟨x, _, rfl, q1, RdL.take k q2⟩
theorem Rd.one {h : Heap} {S : Nat → Prop} {t : Tr} {x : Value} (h1 : t.cellB = true) (H : Rd h S t x) : x.oneCell' = true := by
  cases t <;> simp only [Rd] at H <;> (try (rw [H]; rfl)) <;> (try exact H.elim)
  case row => obtain ⟨_, A, c, vs, rfl, _⟩ := H; rfl
  case agg => simp [Tr.cellB] at h1
theorem Rd.av {hd : Nat → Value} {m : Mem} {h : Heap} {t : Tr} {x : Value} (h1 : t.cellB = true) (H : Rd c.w0.heap c.safe t x) : AVok c hd m h t.av x := by
  cases t with
  | int k n => simp only [Rd] at H; simp only [Tr.av, AVok]; exact H
  | bool b => simp only [Rd] at H; simp only [Tr.av, AVok]; exact H
  | str s => simp only [Rd] at H; simp only [Tr.av, AVok]; exact H
  | row sz n cs => simp only [Tr.av, AVok]; exact ⟨H, fun k hk => by cases hk⟩
  | _ => simp only [Tr.av, AVok]
theorem RdL.av {hd : Nat → Value} {m : Mem} {h : Heap} : ∀ {ts : List Tr} {vs : List Value}, cells1 ts → RdL c.w0.heap c.safe ts vs → AVokL c hd m h (ts.map Tr.av) vs ∧ ∀ x, x ∈ vs → x.oneCell' = true
  | [], vs, _, H => by simp only [RdL] at H; subst H; simp [AVokL]
  | t :: ts, vs, h1, H => by
    simp only [RdL] at H
    obtain ⟨x, us, rfl, q1, q2⟩ := H
    obtain ⟨k1, k2⟩ := RdL.av (hd := hd) (m := m) (h := h) (fun t' h' => h1 t' (List.mem_cons_of_mem _ h')) q2
    refine ⟨?_, fun y hy => ?_⟩
    · simp only [List.map_cons, AVokL]; exact ⟨x, us, rfl, Rd.av (h1 t (by simp)) q1, k1⟩
    · rcases List.mem_cons.1 hy with rfl | hy
      · exact Rd.one (h1 t (by simp)) q1
      · exact k2 y hy
theorem cells1.sub {ts us : List Tr} (h : cells1 ts) (hs : ∀ t, t ∈ us → t ∈ ts) : cells1 us := fun t ht => h t (hs t ht)
end
end Go.AM
/- AN ABSTRACT MACHINE, 8: loads, stores, places, numbers, lengths, cuts. No condition of its own. -/
namespace Go.AM
open Go AM

section
variable {P : Program} {c : Ctx} {hd : Nat → Value} {fp : Nat → List Nat} {m m' : Mem} {w : World} {X : List Nat} {u : Nat → Bool} {A W : List Nat} {v : AV} {τ : TTab}

theorem add_add (a : Addr) (x y : Nat) : (a.add x).add y = a.add (x + y) := by
  unfold Addr.add
  by_cases hx : x = 0
  · subst hx; simp
  · by_cases hy : y = 0
    · subst hy; simp [hx]
    · simp [hx, hy, Nat.add_assoc]

theorem load_ok (hτ : TTok P τ) (H : HM c hd fp m w X) {t : Nat} {x : AV} {xv : Value} (hx : AVok c hd m w.heap x xv) (hE : Ex P (loadA τ t x) u m v m' A W) :
    m' = m ∧ ∃ vv, (Instr.loadAt t xv).run P w = .ok vv w ∧ AVok c hd m w.heap v vv := by
  unfold loadA at hE
  cases ht : τ t with
  | none => rw [ht] at hE; simp only [Ex] at hE
  | some ti =>
    rw [ht] at hE
    have hti := hτ t ti ht
    cases x <;> simp only [Ex] at hE
    case ptr nm g i off =>
      obtain ⟨B, rfl, hE⟩ := hE
      simp only [AVok] at hx
      obtain ⟨h1, b, hb, hg, hk⟩ := hx
      rw [hb] at hE
      have hblk := H.blk nm b hb
      cases b with
      | gone g' => simp only [Ex] at hE
      | lent _ _ _ _ => simp only [Ex] at hE
      | lentB _ _ => simp only [Ex] at hE
      | box g' bt cs =>
        simp only at hE
        split at hE
        · rename_i hc
          obtain ⟨rfl, rfl, hl⟩ := hc
          obtain ⟨_, b, h2, rfl⟩ := hk rfl
          simp only [BlkOk] at hblk
          obtain ⟨b', cur, e, fr, k1, k2, k3, k4, k5, k6⟩ := hblk
          rw [h2] at k1; injection k1 with k1; injection k1 with k1; injection k1 with k1
          subst k1
          have q := AVokL.take ti.size (AVokL.drop off k4)
          have hsz := AVokL.length k4
          obtain ⟨rfl, q2⟩ := one_val hE q (fun y hy => k5 y (List.mem_of_mem_drop (List.mem_of_mem_take hy)))
          refine ⟨rfl, _, ?_, q2⟩
          simp only [Instr.loadAt, Instr.sureAddr, Sem.run_bind, Sem.run_pure, Result.andThen_ok]
          refine run_loadVar hti w _ _ (by rw [List.length_take, List.length_drop]; omega) (fun j y hj => ?_)
          rw [add_off, cellAt_of k2, ← Array.getElem?_toList]
          rw [List.getElem?_take] at hj
          split at hj
          · rwa [List.getElem?_drop] at hj
          · cases hj
        · simp only [Ex] at hE
      | row g' vv sz n cs =>
        simp only at hE
        split at hE
        · rename_i hc
          obtain ⟨rfl, hl⟩ := hc
          simp only [Ex] at hE
          obtain ⟨hi, b, N, C, h2, rfl⟩ := hk rfl
          simp only [BlkOk] at hblk
          obtain ⟨b', cap, cur, e, fr, G, k1, k2, k3, k4, k5, k6, k7, k8⟩ := row_block hblk (by omega)
          have hlen : cs.length = n * sz ∧ cells1 cs := by simp only [Ow] at hblk; exact hblk.1
          have hbb : b = b' := by rw [k1] at h2; injection h2 with h2; injection h2 with h2; injection h2 with h2; exact h2.symm
          subst hbb
          obtain ⟨G1, r1⟩ := OwL.el k7 sz i
          obtain ⟨G2, r2⟩ := OwL.drop off r1
          obtain ⟨G3, r3⟩ := OwL.take ti.size r2
          have hle : i * sz + sz ≤ n * sz := by have := mul_add_lt (sz := sz) (j := sz - 1) hi; have h3 : (i + 1) * sz ≤ n * sz := Nat.mul_le_mul_right _ hi; rw [Nat.succ_mul] at h3; exact h3
          have hn : n * sz ≤ cur.size := by rw [k4]; exact Nat.mul_le_mul_right _ k5
          have hell : (el cs sz i).length = sz := by unfold el; rw [List.length_take, List.length_drop, hlen.1]; omega
          have h1c : cells1 (((el cs sz i).drop off).take ti.size) := hlen.2.sub (fun t ht => by
            have := List.mem_of_mem_drop (List.mem_of_mem_take ht)
            unfold el at this
            exact List.mem_of_mem_drop (List.mem_of_mem_take this))
          have cellF : ∀ k y, ((((((cur.toList.take (n * sz)).drop (i * sz)).take sz)).drop off).take ti.size)[k]? = some y → cellAt w.heap ⟨b, i * sz + off + k, none⟩ = some y := by
            intro k y hk
            rw [List.getElem?_take] at hk
            split at hk
            · rw [List.getElem?_drop, List.getElem?_take, if_pos (by omega), List.getElem?_drop, List.getElem?_take, if_pos (by omega)] at hk
              rw [cellAt_of k2, ← Array.getElem?_toList, Nat.add_assoc]; exact hk
            · cases hk
          have q := elAVs_ok (c := c) hb hi h2 H.tg1 _ off h1c r3 (by rw [List.length_take, List.length_drop, hell]; omega) cellF
          have hone : ∀ y, y ∈ ((((((cur.toList.take (n * sz)).drop (i * sz)).take sz)).drop off).take ti.size) → y.oneCell' = true := by
            intro y hy
            obtain ⟨k, hk⟩ := List.mem_iff_getElem?.1 hy
            have hkl := (List.getElem?_eq_some_iff.1 hk).1
            rw [OwL.length r3] at hkl
            obtain ⟨y', G', e1, e2, _⟩ := OwL.get r3 (List.getElem?_eq_getElem hkl)
            rw [hk] at e1; injection e1 with e1; subst e1
            exact Ow.oneCell (h1c _ (List.getElem_mem _)) H.tg1 e2
          obtain ⟨rfl, q2⟩ := one_val hE q hone
          refine ⟨rfl, _, ?_, q2⟩
          simp only [Instr.loadAt, Instr.sureAddr, Sem.run_bind, Sem.run_pure, Result.andThen_ok]
          refine run_loadVar hti w _ _ (by rw [OwL.length r3, List.length_take, List.length_drop, hell]; omega) (fun j y hj => ?_)
          rw [add_off]
          exact cellF j y hj
        · simp only [Ex] at hE
    case rptr cs =>
      simp only [AVok] at hx
      obtain ⟨a, vs, rfl, hs, h2, h3, h1c⟩ := hx
      split at hE
      · rename_i hl
        obtain ⟨r1, r2⟩ := RdL.av (c := c) (hd := hd) (m := m) (h := w.heap) (h1c.sub (fun t ht => List.mem_of_mem_take ht)) (RdL.take ti.size h2)
        obtain ⟨rfl, q2⟩ := one_val hE r1 r2
        refine ⟨rfl, _, ?_, q2⟩
        simp only [Instr.loadAt, Instr.sureAddr, Sem.run_bind, Sem.run_pure, Result.andThen_ok]
        refine run_loadVar hti w _ _ (by rw [List.length_take, RdL.length h2]; omega) (fun j y hj => ?_)
        rw [List.getElem?_take] at hj
        split at hj
        · exact (cellAt_frame (by rw [add_block]; exact H.same _ hs)).trans (h3 j y hj)
        · cases hj
      · simp only [Ex] at hE

/-! ### cells that are written -/
theorem setCells_row {b e : Nat} {fr : Nat × Nat} : ∀ (vs : List Value) (o : Nat) (w : World) (cur : Array Value), w.heap[b]? = some (.cells cur e fr) →
    ∃ cur' : Array Value, (w.setCells b o vs).heap[b]? = some (.cells cur' e fr) ∧ cur'.toList = setAt cur.toList o vs ∧ cur'.size = cur.size
  | [], o, w, cur, h => ⟨cur, h, rfl, rfl⟩
  | x :: r, o, w, cur, h => by
    have h1 : (w.setCell ⟨b, o, none⟩ x).heap[b]? = some (.cells (cur.setIfInBounds o x) e fr) := by
      simp only [World.setCell, Array.getElem?_modify, if_true]
      rw [h]; rfl
    obtain ⟨cur', h2, h3, h4⟩ := setCells_row r (o + 1) _ _ h1
    exact ⟨cur', h2, by rw [h3, Array.toList_setIfInBounds]; rfl, by rw [h4, Array.size_setIfInBounds]⟩
theorem setCells_far {b k : Nat} (hk : k ≠ b) : ∀ (vs : List Value) (o : Nat) (w : World), (w.setCells b o vs).heap[k]? = w.heap[k]?
  | [], o, w => rfl
  | x :: r, o, w => by
    rw [World.setCells, setCells_far hk r]
    simp only [World.setCell, Array.getElem?_modify]
    rw [if_neg (fun e => hk e.symm)]
theorem setCells_same {b : Nat} : ∀ (vs : List Value) (o : Nat) (w : World), (w.setCells b o vs).os = w.os ∧ (w.setCells b o vs).tape = w.tape ∧ (w.setCells b o vs).output = w.output ∧ (w.setCells b o vs).heap.size = w.heap.size
  | [], o, w => ⟨rfl, rfl, rfl, rfl⟩
  | x :: r, o, w => by
    obtain ⟨h1, h2, h3, h4⟩ := setCells_same (b := b) r (o + 1) (w.setCell ⟨b, o, none⟩ x)
    exact ⟨h1, h2, h3, h4.trans (by simp [World.setCell])⟩
theorem setAt_length {α : Type} : ∀ (xs : List α) (cs : List α) (k : Nat), (setAt cs k xs).length = cs.length
  | [], cs, k => rfl
  | x :: xs, cs, k => by rw [Go.AM.setAt, setAt_length xs, List.length_set]
theorem setAt_take {α : Type} : ∀ (xs : List α) (cs : List α) (k n : Nat), k + xs.length ≤ n → (setAt cs k xs).take n = setAt (cs.take n) k xs
  | [], cs, k, n, h => rfl
  | x :: xs, cs, k, n, h => by
    simp only [List.length_cons] at h
    rw [Go.AM.setAt, Go.AM.setAt, setAt_take xs _ _ _ (by omega), List.take_set]
theorem unfr_frozen {w : World} {b e : Nat} {cur : Array Value} {fr : Nat × Nat} {sz : Nat} (h : w.heap[b]? = some (.cells cur e fr)) (hf : unfr fr cur.size sz) {o : Nat} (ho : o < cur.size) : w.frozen? ⟨b, o, none⟩ = false := by
  unfold World.frozen?
  simp only [h]
  simp only [Bool.and_eq_false_iff, decide_eq_false_iff_not]
  rcases hf with h1 | h1 <;> omega
/-- values stored one behind the other -/
theorem run_stores (P : Program) {w : World} {b e : Nat} {cur : Array Value} {fr : Nat × Nat} {sz : Nat} (h : w.heap[b]? = some (.cells cur e fr)) (hf : unfr fr cur.size sz) (o : Nat) (vs : List Value) (hl : o + vs.length ≤ cur.size) (h1 : ∀ x, x ∈ vs → x.oneCell' = true) :
    (storeCells ⟨b, o, none⟩ vs).run P w = .ok () (w.setCells b o vs) := by
  have := run_storeCells_cells (P := P) b o vs 0 w (fun j hj => by
    rw [cell_eq, cellAt_of h]
    simp; omega) (fun j hj => unfr_frozen h hf (by omega)) h1
  simpa using this
theorem run_storeVar (hτ : TTok P τ) {t : Nat} {ti : TI} (ht : τ t = some ti) {w : World} {b e : Nat} {cur : Array Value} {fr : Nat × Nat} {sz : Nat} (h : w.heap[b]? = some (.cells cur e fr)) (hf : unfr fr cur.size sz) (o : Nat) {y : Value} (hz : y.cells.size = ti.size) (hl : o + ti.size ≤ cur.size) (h1 : ∀ x, x ∈ y.cells.toList → x.oneCell' = true) :
    (Instr.storeAt t (.pointer (some ⟨b, o, none⟩)) y).run P w = .ok () (w.setCells b o y.cells.toList) := by
  have := run_stores P h hf o y.cells.toList (by rw [Array.length_toList]; omega) h1
  have hn : ¬ (y.cells.size ≠ ti.size) := by simp [hz]
  simp only [Instr.storeAt, Instr.sureAddr, storeVar, Sem.run_bind, Sem.run_pure, Result.andThen_ok, (hτ t ti ht).size, hn, if_false, this]

theorem setAt_eq {α : Type} : ∀ (xs cs : List α) (k : Nat), k + xs.length ≤ cs.length → setAt cs k xs = cs.take k ++ xs ++ cs.drop (k + xs.length)
  | [], cs, k, h => by simp [Go.AM.setAt]
  | x :: xs, cs, k, h => by
    simp only [List.length_cons] at h
    have hk : k < cs.length := by omega
    rw [Go.AM.setAt, setAt_eq xs _ (k + 1) (by rw [List.length_set]; omega), List.take_set, List.drop_set_of_lt (by omega)]
    have : (cs.take (k + 1)).set k x = cs.take k ++ [x] := by
      rw [List.take_succ_eq_append_getElem hk, List.set_append]
      simp [List.length_take, Nat.min_eq_left (Nat.le_of_lt hk)]
    rw [this, List.append_assoc, List.append_assoc, List.append_assoc, List.singleton_append, List.cons_append, List.length_cons, show k + 1 + xs.length = k + (xs.length + 1) by omega]
theorem OwL.setAt {h : Heap} {tg : List Value} {ts : List Tr} {us : List Value} {F : List Nat} {cs : List Tr} {vs : List Value} {G : List Nat} (k : Nat) (H : OwL h tg cs vs G) (K : OwL h tg ts us F) (hl : k + ts.length ≤ cs.length) :
    ∃ G1 G2 G3, G = G1 ++ G2 ++ G3 ∧ OwL h tg (setAt cs k ts) (setAt vs k us) (G1 ++ F ++ G3) := by
  have lv := OwL.length H
  have lu := OwL.length K
  have e1 : cs = cs.take k ++ ((cs.drop k).take ts.length ++ cs.drop (k + ts.length)) := by
    rw [← List.drop_drop, List.take_append_drop, List.take_append_drop]
  rw [e1] at H
  obtain ⟨v1, v2, F1, F2, rfl, rfl, h1, h2⟩ := OwL.split H
  obtain ⟨v3, v4, F3, F4, rfl, rfl, h3, h4⟩ := OwL.split h2
  have l1 := OwL.length h1
  have l3 := OwL.length h3
  have l4 := OwL.length h4
  rw [List.length_take] at l1
  rw [List.length_take, List.length_drop] at l3
  rw [List.length_drop] at l4
  refine ⟨F1, F3, F4, by simp, ?_⟩
  rw [setAt_eq ts cs k hl, setAt_eq us _ k (by rw [List.length_append, List.length_append]; omega)]
  have t1 : (v1 ++ (v3 ++ v4)).take k = v1 := List.take_left' (by omega)
  have t2 : (v1 ++ (v3 ++ v4)).drop (k + us.length) = v4 := by
    rw [← List.append_assoc]; exact List.drop_left' (by rw [List.length_append]; omega)
  rw [t1, t2]
  exact OwL.append (OwL.append h1 K) h4

/-! ### a store -/
theorem upEl_setAt (cs : List Tr) (sz i off : Nat) (ts : List Tr) (h1 : off + ts.length ≤ sz) (h2 : (i + 1) * sz ≤ cs.length) : upEl cs sz i (setAt (el cs sz i) off ts) = setAt cs (i * sz + off) ts := by
  have e1 : (i + 1) * sz = i * sz + sz := Nat.succ_mul _ _
  have hl : (el cs sz i).length = sz := by unfold el; rw [List.length_take, List.length_drop]; omega
  rw [setAt_eq ts _ off (by omega), setAt_eq ts cs (i * sz + off) (by omega)]
  unfold upEl el
  have a1 : ((cs.drop (i * sz)).take sz).take off = (cs.drop (i * sz)).take off := by rw [List.take_take, Nat.min_eq_left (by omega)]
  have a2 : cs.take (i * sz) ++ (cs.drop (i * sz)).take off = cs.take (i * sz + off) := (List.take_add ..).symm
  have a3 : ((cs.drop (i * sz)).take sz).drop (off + ts.length) ++ cs.drop (i * sz + sz) = cs.drop (i * sz + off + ts.length) := by
    rw [List.drop_take, List.drop_drop]
    have : cs.drop (i * sz + sz) = (cs.drop (i * sz + (off + ts.length))).drop (sz - (off + ts.length)) := by rw [List.drop_drop]; congr 1; omega
    rw [this, List.take_append_drop, Nat.add_assoc]
  rw [a1, ← a3, ← a2]
  simp [List.append_assoc]
theorem cells1.setAt {cs ts : List Tr} {k : Nat} (h1 : cells1 cs) (h2 : cells1 ts) : cells1 (setAt cs k ts) := by
  induction ts generalizing cs k with
  | nil => exact h1
  | cons t ts ih =>
    rw [Go.AM.setAt]
    refine ih (fun x hx => ?_) (fun x hx => h2 x (List.mem_cons_of_mem _ hx))
    rcases List.mem_or_eq_of_mem_set hx with h | h
    · exact h1 x h
    · rw [h]; exact h2 t (by simp)
theorem mem_setAt {α : Type} : ∀ (xs cs : List α) (k : Nat) (x : α), x ∈ setAt cs k xs → x ∈ cs ∨ x ∈ xs
  | [], cs, k, x, h => .inl h
  | y :: xs, cs, k, x, h => by
    rw [Go.AM.setAt] at h
    rcases mem_setAt xs _ _ x h with h | h
    · rcases List.mem_or_eq_of_mem_set h with h | h
      · exact .inl h
      · exact .inr (by simp [h])
    · exact .inr (List.mem_cons_of_mem _ h)

theorem store_ok (hτ : TTok P τ) (H : HM c hd fp m w X) {t : Nat} {x y : AV} {xv yv : Value} (hx : AVok c hd m w.heap x xv) (hy : AVok c hd m w.heap y yv) (hE : Ex P (storeA τ t x y) u m v m' A W) :
    v = .any ∧ ∃ w' hd' fp', (Instr.storeAt t xv yv).run P w = .ok () w' ∧ HM c hd' fp' m' w' X ∧ Evo hd m w.heap hd' m' w'.heap := by
  have same : ∀ nm, upd hd nm (hd nm) = hd := fun nm => by funext k; unfold upd; split <;> simp_all
  unfold storeA at hE
  cases ht : τ t with
  | none => rw [ht] at hE; simp only [Ex] at hE
  | some ti =>
    rw [ht] at hE
    have hti := hτ t ti ht
    cases x <;> simp only [Ex] at hE
    case ptr nm g i off =>
      obtain ⟨B, rfl, hE⟩ := hE
      have hx0 := hx
      simp only [AVok] at hx
      obtain ⟨h1, b, hb, hg, hk⟩ := hx
      rw [hb] at hE
      have hblk := H.blk nm b hb
      cases b with
      | gone g' => simp only [Ex] at hE
      | lent _ _ _ _ => simp only [Ex] at hE
      | lentB _ _ => simp only [Ex] at hE
      | box g' bt cs =>
        simp only at hE
        split at hE
        · rename_i hc
          obtain ⟨rfl, rfl, hkn, hyl, hl⟩ := hc
          obtain ⟨_, b, h2, rfl⟩ := hk rfl
          simp only [Ex] at hE
          obtain ⟨_, _, _, _, rfl, rfl, _, _⟩ := hE
          simp only [BlkOk] at hblk
          obtain ⟨b', cur, e, fr, k1, k2, k3, k4, k5, k6⟩ := hblk
          rw [h2] at k1; injection k1 with k1; injection k1 with k1; injection k1 with k1
          subst k1
          obtain ⟨c1, c2⟩ := AVok.cells hy hkn
          have hcl := AVokL.length c1
          have hsz := AVokL.length k4
          rw [Array.length_toList] at hcl hsz
          have hrun := run_storeVar hτ ht k2 k3 off (y := yv) (by omega) (by omega) c2
          obtain ⟨cur', q1, q2, q3⟩ := setCells_row yv.cells.toList off w cur k2
          obtain ⟨s1, s2, s3, s4⟩ := setCells_same (b := b) yv.cells.toList off w
          have hmem : b ∈ fp nm := by rw [k6]; simp
          have st := HM.step (w := w) (Y := []) (X := X) (w' := w.setCells b off yv.cells.toList) (by simpa using H) nm (blk := .box g' bt (setAt cs off y.cells)) (v := hd nm) (F := [b]) (Y' := []) s1 s2 s3 (by rw [s4]; exact Nat.le_refl _)
            (fun k _ hk1 _ => setCells_far (fun e => hk1 (by rw [e]; exact hmem)) _ _ _) (by simp) (fun k hk => .inl (by simp at hk; rw [hk]; exact hmem)) (fun k hk => by cases hk)
            (fun b0 h0 => by
              rw [hb] at h0; injection h0 with h0; subst h0
              exact ⟨Nat.le_refl _, fun _ => rfl⟩)
            (fun E => by
              simp only [BlkOk, upd_same]
              refine ⟨b, cur', e, fr, h2, q1, by rw [q3]; exact k3, ?_, ?_, rfl⟩
              · rw [q2]; exact AVokL.setAt off (AVokL.evo E cs k4) (AVokL.evo E y.cells c1)
              · intro z hz
                rw [q2] at hz
                rcases mem_setAt _ _ _ z hz with h | h
                · exact k5 z h
                · exact c2 z h)
          rw [same] at st
          exact ⟨rfl, _, _, _, hrun, by simpa using st.1, st.2⟩
        · simp only [Ex] at hE
      | row g' vv sz n cs =>
        simp only at hE
        split at hE
        · simp only [Ex] at hE
        · rename_i hkn
          have hkn' : y.known = true := by simpa using hkn
          obtain ⟨c1, c2⟩ := AVok.cells hy hkn'
          obtain ⟨ts, m1, fp1, F, A1, W1, e1, e2, e3, e4, e5, e6⟩ := toTL_ok _ _ H c1 hE
          simp only [Ex] at e1
          obtain ⟨B1, _, e1⟩ := e1
          have hx1 := AVok.evo e5 _ hx0
          simp only [AVok] at hx1
          obtain ⟨_, b1, hb1, hg1, hk1⟩ := hx1
          rw [hb1] at e1
          cases b1 with
          | box _ _ _ => simp only [Ex] at e1
          | gone _ => simp only [Ex] at e1
          | lent _ _ _ _ => simp only [Ex] at e1
          | lentB _ _ => simp only [Ex] at e1
          | row g2 v2 sz2 n2 cs2 =>
            simp only at e1
            split at e1
            · rename_i hc
              obtain ⟨rfl, hl⟩ := hc
              simp only [Ex] at e1
              obtain ⟨_, _, _, _, rfl, rfl, _, _⟩ := e1
              obtain ⟨hi, b, N, C, h2, rfl⟩ := hk1 rfl
              have hblk1 := e2.blk nm _ hb1
              simp only [BlkOk] at hblk1
              obtain ⟨b', cap, cur, e, fr, G, k1, k2, k3, k4, k5, k6, k7, k8⟩ := row_block hblk1 (by omega)
              have hlen : cs2.length = n2 * sz2 ∧ cells1 cs2 := by simp only [Ow] at hblk1; exact hblk1.1
              have hbb : b = b' := by rw [k1] at h2; injection h2 with h2; injection h2 with h2; injection h2 with h2; exact h2.symm
              subst hbb
              have tl : ts.length = ti.size := e6.trans hti.len
              have hvl := OwL.length e3
              rw [Array.length_toList] at hvl
              have hle : i * sz2 + sz2 ≤ n2 * sz2 := by have h3 : (i + 1) * sz2 ≤ n2 * sz2 := Nat.mul_le_mul_right _ hi; rw [Nat.succ_mul] at h3; exact h3
              have hncap : n2 * sz2 ≤ cur.size := by rw [k4]; exact Nat.mul_le_mul_right _ k5
              have hrun := run_storeVar hτ ht k2 k3 (i * sz2 + off) (y := yv) (by omega) (by omega) c2
              obtain ⟨cur', q1, q2, q3⟩ := setCells_row yv.cells.toList (i * sz2 + off) w cur k2
              obtain ⟨s1, s2, s3, s4⟩ := setCells_same (b := b) yv.cells.toList (i * sz2 + off) w
              obtain ⟨G1, G2, G3, p1, p2⟩ := OwL.setAt (i * sz2 + off) k7 e3 (by rw [hlen.1]; omega)
              have hnd1 := e2.nd nm
              rw [k8] at hnd1
              have hbG : b ∉ G := (List.nodup_cons.1 hnd1).1
              have hGn : G.Nodup := (List.nodup_cons.1 hnd1).2
              have hFG : ∀ k, k ∈ F → k ∉ fp1 nm := fun k hk hk2 => e2.xd nm k hk2 (List.mem_append_left _ hk)
              have hbF : b ∉ F := fun hk => hFG b hk (by rw [k8]; simp)
              have hFn : F.Nodup := (List.nodup_append.1 e2.xnd).1
              have hmemG : ∀ k, k ∈ G1 ∨ k ∈ G3 → k ∈ G := fun k hk => by rw [p1]; simp; rcases hk with h | h <;> simp [h]
              have hsub : ∀ k, k ∈ G1 ++ F ++ G3 → k ∈ G ∨ k ∈ F := fun k hk => by
                rw [List.mem_append, List.mem_append] at hk
                rcases hk with (h | h) | h
                · exact .inl (hmemG k (.inl h))
                · exact .inr h
                · exact .inl (hmemG k (.inr h))
              have hnb : b ∉ G1 ++ F ++ G3 := fun hk => by
                rcases hsub b hk with h | h
                · exact hbG h
                · exact hbF h
              have hnew : (G1 ++ F ++ G3).Nodup := by
                rw [p1, List.nodup_append, List.nodup_append] at hGn
                obtain ⟨⟨a1, a2, a3⟩, a4, a5⟩ := hGn
                rw [List.nodup_append, List.nodup_append]
                refine ⟨⟨a1, hFn, fun x hx z hz he => ?_⟩, a4, fun x hx z hz he => ?_⟩
                · subst he; exact hFG x hz (by rw [k8]; exact List.mem_cons_of_mem _ (hmemG x (.inl hx)))
                · subst he
                  rcases List.mem_append.1 hx with h | h
                  · exact a5 x (List.mem_append_left _ h) x hz rfl
                  · exact hFG x h (by rw [k8]; exact List.mem_cons_of_mem _ (hmemG x (.inr hz)))
              have hcs : upEl cs2 sz2 i (setAt (el cs2 sz2 i) off ts) = setAt cs2 (i * sz2 + off) ts := upEl_setAt cs2 sz2 i off ts (by omega) (by rw [hlen.1, Nat.succ_mul]; exact hle)
              have st := HM.step (w := w) (Y := F) (X := X) (w' := w.setCells b (i * sz2 + off) yv.cells.toList) e2 nm (blk := .row g2 (v2 + 1) sz2 n2 (upEl cs2 sz2 i (setAt (el cs2 sz2 i) off ts))) (v := hd nm) (F := b :: (G1 ++ F ++ G3)) (Y' := []) s1 s2 s3 (by rw [s4]; exact Nat.le_refl _)
                (fun k _ hk1 _ => setCells_far (fun e => hk1 (by rw [e, k8]; simp)) _ _ _)
                (by rw [List.append_nil]; exact List.nodup_cons.2 ⟨hnb, hnew⟩)
                (fun k hk => by
                  rw [List.append_nil] at hk
                  rcases List.mem_cons.1 hk with rfl | hk
                  · exact .inl (by rw [k8]; simp)
                  · rcases hsub k hk with h | h
                    · exact .inl (by rw [k8]; exact List.mem_cons_of_mem _ h)
                    · exact .inr (.inl h))
                (fun k hk => by cases hk)
                (fun b0 h0 => by
                  rw [hb1] at h0; injection h0 with h0; subst h0
                  exact ⟨Nat.le_refl _, fun _ => ⟨rfl, rfl, rfl, Nat.le_succ _, fun hv => by omega⟩⟩)
                (fun E => by
                  simp only [BlkOk, upd_same, Ow]
                  rw [hcs]
                  refine ⟨⟨by rw [setAt_length]; exact hlen.1, hlen.2.setAt e4⟩, .inr ⟨b, cap, cur', e, fr, G1 ++ F ++ G3, k1, q1, by rw [q3]; exact k3, by rw [q3]; exact k4, k5, k6, ?_, rfl⟩⟩
                  rw [q2, setAt_take _ _ _ _ (by rw [Array.length_toList]; omega)]
                  exact OwL.frame _ p2 (fun k hk => setCells_far (fun e => hnb (by rw [← e]; exact hk)) _ _ _))
              rw [same] at st
              exact ⟨rfl, _, _, _, hrun, by simpa using st.1, e5.trans st.2⟩
            · simp only [Ex] at e1
end
end Go.AM
