/- AN ABSTRACT MACHINE, 1: trees (what a value holds, with all that it leads to), and what it means that a value in memory is such a tree, owned (its blocks told) or read. No condition of its own. -/
import Derived.Calls
import Derived.Orders
import Derived.KernelRfl
import Derived.Laws.IdiomCopy
import Derived.Laws.Entries
set_option linter.unusedVariables false
set_option linter.unusedSimpArgs false
namespace Go.AM
open Go

inductive Tr where
  | int (k : IntKind) (n : Int)
  | bool (b : Bool)
  | str (s : ByteArray)
  | row (sz n : Nat) (cs : List Tr)
  | box (t : Nat) (cs : List Tr)
  | tag (k : Nat)
  | hole
  | agg (cs : List Tr)
  | tup (cs : List Tr)
  deriving Inhabited

abbrev Heap := Array Obj
def maxL : Nat := 9223372036854775807

def cellAt (h : Heap) (a : Addr) : Option Value :=
  match h[a.block]? with
  | some (.cells c _ _) => if a.spot.isSome then none else c[a.off]?
  | _ => none
theorem cell_eq (w : World) (a : Addr) : w.cell? a = cellAt w.heap a := rfl

/-- none of a block's n first cells is barred to writing -/
def unfr (fr : Nat × Nat) (n : Nat) : Prop := fr.2 ≤ fr.1 ∨ n ≤ fr.1

def Tr.cellB : Tr → Bool
  | .agg _ | .tup _ => false
  | _ => true
/-- each is the content of one cell -/
def cells1 (cs : List Tr) : Prop := ∀ t, t ∈ cs → t.cellB = true

mutual
def Ow (h : Heap) (tg : List Value) : Tr → Value → List Nat → Prop
  | .int k n, v, F => v = .int k n ∧ F = []
  | .bool b, v, F => v = .bool b ∧ F = []
  | .str s, v, F => v = .string s ∧ F = []
  | .row sz n cs, v, F => (cs.length = n * sz ∧ cells1 cs) ∧ ((∃ A, v = .slice A 0 0 ∧ n = 0 ∧ F = []) ∨
      ∃ g cap cur e fr G, v = .slice (some ⟨g, 0, none⟩) n cap ∧ h[g]? = some (.cells cur e fr) ∧ unfr fr cur.size ∧ cur.size = cap * sz ∧ n ≤ cap ∧ cap ≤ maxL ∧ OwL h tg cs (cur.toList.take (n * sz)) G ∧ F = g :: G)
  | .box t cs, v, F => ∃ g cur e fr G, v = .pointer (some ⟨g, 0, none⟩) ∧ h[g]? = some (.cells cur e fr) ∧ unfr fr cur.size ∧ cells1 cs ∧ OwL h tg cs cur.toList G ∧ F = g :: G
  | .tag k, v, F => tg[k]? = some v ∧ F = []
  | .hole, v, F => v.oneCell' = true ∧ F = []
  | .agg cs, v, F => ∃ vs, v = .agg vs ∧ OwL h tg cs vs.toList F
  | .tup cs, v, F => ∃ vs, v = .tuple vs ∧ OwL h tg cs vs.toList F
def OwL (h : Heap) (tg : List Value) : List Tr → List Value → List Nat → Prop
  | [], vs, F => vs = [] ∧ F = []
  | t :: ts, vs, F => ∃ v us F1 F2, vs = v :: us ∧ Ow h tg t v F1 ∧ OwL h tg ts us F2 ∧ F = F1 ++ F2
end

mutual
def Rd (h : Heap) (S : Nat → Prop) : Tr → Value → Prop
  | .int k n, v => v = .int k n
  | .bool b, v => v = .bool b
  | .str s, v => v = .string s
  | .row sz n cs, v => (cs.length = n * sz ∧ cells1 cs) ∧ ∃ A c vs, v = .slice A n c ∧ n ≤ c ∧ c ≤ maxL ∧ RdL h S cs vs ∧
      (cs ≠ [] → ∃ a, A = some a ∧ S a.block ∧ ∀ j u, vs[j]? = some u → cellAt h (a.add j) = some u)
  | .agg cs, v => ∃ vs, v = .agg vs ∧ RdL h S cs vs.toList
  | _, _ => False
def RdL (h : Heap) (S : Nat → Prop) : List Tr → List Value → Prop
  | [], vs => vs = []
  | t :: ts, vs => ∃ v us, vs = v :: us ∧ Rd h S t v ∧ RdL h S ts us
end

mutual
/-- nothing but scalars and rows of such: may be read -/
def Tr.plain : Tr → Prop
  | .int .. | .bool _ | .str _ => True
  | .row _ _ cs => Tr.plainL cs
  | .agg cs => Tr.plainL cs
  | _ => False
def Tr.plainL : List Tr → Prop
  | [] => True
  | t :: ts => Tr.plain t ∧ Tr.plainL ts
end

/-! ### frames -/
mutual
theorem Ow.frame {h h' : Heap} {tg : List Value} : ∀ (t : Tr) {v F}, Ow h tg t v F → (∀ k, k ∈ F → h'[k]? = h[k]?) → Ow h' tg t v F
  | .int .., _, _, H, _ | .bool _, _, _, H, _ | .str _, _, _, H, _ | .tag _, _, _, H, _ | .hole, _, _, H, _ => by simpa only [Ow] using H
  | .row sz n cs, v, F, H, hf => by
    simp only [Ow] at H ⊢
    refine ⟨H.1, H.2.imp id ?_⟩
    rintro ⟨g, cap, cur, e, fr, G, h1, h2, h3, h4, h5, h6, h7, rfl⟩
    exact ⟨g, cap, cur, e, fr, G, h1, (hf g (by simp)).trans h2, h3, h4, h5, h6, OwL.frame cs h7 (fun k hk => hf k (by simp [hk])), rfl⟩
  | .box t cs, v, F, H, hf => by
    simp only [Ow] at H ⊢
    obtain ⟨g, cur, e, fr, G, h1, h2, h3, hc, h4, rfl⟩ := H
    exact ⟨g, cur, e, fr, G, h1, (hf g (by simp)).trans h2, h3, hc, OwL.frame cs h4 (fun k hk => hf k (by simp [hk])), rfl⟩
  | .agg cs, v, F, H, hf => by
    simp only [Ow] at H ⊢
    obtain ⟨vs, h1, h2⟩ := H
    exact ⟨vs, h1, OwL.frame cs h2 hf⟩
  | .tup cs, v, F, H, hf => by
    simp only [Ow] at H ⊢
    obtain ⟨vs, h1, h2⟩ := H
    exact ⟨vs, h1, OwL.frame cs h2 hf⟩
theorem OwL.frame {h h' : Heap} {tg : List Value} : ∀ (ts : List Tr) {vs F}, OwL h tg ts vs F → (∀ k, k ∈ F → h'[k]? = h[k]?) → OwL h' tg ts vs F
  | [], _, _, H, _ => by simpa only [OwL] using H
  | t :: ts, vs, F, H, hf => by
    simp only [OwL] at H ⊢
    obtain ⟨v, us, F1, F2, rfl, h1, h2, rfl⟩ := H
    exact ⟨v, us, F1, F2, rfl, Ow.frame t h1 (fun k hk => hf k (by simp [hk])), OwL.frame ts h2 (fun k hk => hf k (by simp [hk])), rfl⟩
end

theorem cellAt_frame {h h' : Heap} {a : Addr} (hf : h'[a.block]? = h[a.block]?) : cellAt h' a = cellAt h a := by
  unfold cellAt; rw [hf]
theorem add_block (a : Addr) (n : Nat) : (a.add n).block = a.block := by unfold Addr.add; split <;> rfl

mutual
theorem Rd.frame {h h' : Heap} {S S' : Nat → Prop} : ∀ (t : Tr) {v}, Rd h S t v → (∀ k, S k → S' k ∧ h'[k]? = h[k]?) → Rd h' S' t v
  | .int .., _, H, _ | .bool _, _, H, _ | .str _, _, H, _ => by simpa only [Rd] using H
  | .tag _, _, H, _ | .hole, _, H, _ | .box .., _, H, _ | .tup _, _, H, _ => by simp only [Rd] at H
  | .row sz n cs, v, H, hf => by
    simp only [Rd] at H ⊢
    obtain ⟨hl, A, c, vs, h1, h2, h3, h4, h5⟩ := H
    refine ⟨hl, A, c, vs, h1, h2, h3, RdL.frame cs h4 hf, fun hne => ?_⟩
    obtain ⟨a, ha, hs, hc⟩ := h5 hne
    exact ⟨a, ha, (hf _ hs).1, fun j u hj => (cellAt_frame (by rw [add_block]; exact (hf _ hs).2)).trans (hc j u hj)⟩
  | .agg cs, v, H, hf => by
    simp only [Rd] at H ⊢
    obtain ⟨vs, h1, h2⟩ := H
    exact ⟨vs, h1, RdL.frame cs h2 hf⟩
theorem RdL.frame {h h' : Heap} {S S' : Nat → Prop} : ∀ (ts : List Tr) {vs}, RdL h S ts vs → (∀ k, S k → S' k ∧ h'[k]? = h[k]?) → RdL h' S' ts vs
  | [], _, H, _ => by simpa only [RdL] using H
  | t :: ts, vs, H, hf => by
    simp only [RdL] at H ⊢
    obtain ⟨v, us, rfl, h1, h2⟩ := H
    exact ⟨v, us, rfl, Rd.frame t h1 hf, RdL.frame ts h2 hf⟩
end

/-! ### lists -/
theorem OwL.length {h tg} : ∀ {ts : List Tr} {vs F}, OwL h tg ts vs F → vs.length = ts.length
  | [], vs, F, H => by simp only [OwL] at H; simp [H.1]
  | t :: ts, vs, F, H => by
    simp only [OwL] at H
    obtain ⟨v, us, F1, F2, rfl, _, h2, _⟩ := H
    simp [OwL.length h2]
theorem RdL.length {h S} : ∀ {ts : List Tr} {vs}, RdL h S ts vs → vs.length = ts.length
  | [], vs, H => by simp only [RdL] at H; simp [H]
  | t :: ts, vs, H => by
    simp only [RdL] at H
    obtain ⟨v, us, rfl, _, h2⟩ := H
    simp [RdL.length h2]
theorem OwL.append {h tg} : ∀ {ts us : List Tr} {vs xs F G}, OwL h tg ts vs F → OwL h tg us xs G → OwL h tg (ts ++ us) (vs ++ xs) (F ++ G)
  | [], us, vs, xs, F, G, H, K => by simp only [OwL] at H; simpa [H.1, H.2] using K
  | t :: ts, us, vs, xs, F, G, H, K => by
    simp only [OwL, List.cons_append] at H ⊢
    obtain ⟨v, ws, F1, F2, rfl, h1, h2, rfl⟩ := H
    exact ⟨v, ws ++ xs, F1, F2 ++ G, rfl, h1, OwL.append h2 K, by simp⟩
/-- parted in two -/
theorem OwL.split {h tg} : ∀ {ts us : List Tr} {vs F}, OwL h tg (ts ++ us) vs F → ∃ v1 v2 F1 F2, vs = v1 ++ v2 ∧ F = F1 ++ F2 ∧ OwL h tg ts v1 F1 ∧ OwL h tg us v2 F2
  | [], us, vs, F, H => ⟨[], vs, [], F, rfl, rfl, by simp [OwL], H⟩
  | t :: ts, us, vs, F, H => by
    simp only [OwL, List.cons_append] at H
    obtain ⟨v, ws, F1, F2, rfl, h1, h2, rfl⟩ := H
    obtain ⟨v1, v2, G1, G2, rfl, rfl, k1, k2⟩ := OwL.split h2
    exact ⟨v :: v1, v2, F1 ++ G1, G2, rfl, by simp, ⟨v, v1, F1, G1, rfl, h1, k1, rfl⟩, k2⟩
theorem RdL.append {h S} : ∀ {ts us : List Tr} {vs xs}, RdL h S ts vs → RdL h S us xs → RdL h S (ts ++ us) (vs ++ xs)
  | [], us, vs, xs, H, K => by simp only [RdL] at H; simpa [H] using K
  | t :: ts, us, vs, xs, H, K => by
    simp only [RdL, List.cons_append] at H ⊢
    obtain ⟨v, ws, rfl, h1, h2⟩ := H
    exact ⟨v, ws ++ xs, rfl, h1, RdL.append h2 K⟩
theorem RdL.split {h S} : ∀ {ts us : List Tr} {vs}, RdL h S (ts ++ us) vs → ∃ v1 v2, vs = v1 ++ v2 ∧ RdL h S ts v1 ∧ RdL h S us v2
  | [], us, vs, H => ⟨[], vs, rfl, by simp [RdL], H⟩
  | t :: ts, us, vs, H => by
    simp only [RdL, List.cons_append] at H
    obtain ⟨v, ws, rfl, h1, h2⟩ := H
    obtain ⟨v1, v2, rfl, k1, k2⟩ := RdL.split h2
    exact ⟨v :: v1, v2, rfl, ⟨v, v1, rfl, h1, k1⟩, k2⟩
theorem RdL.get {h S} : ∀ {ts : List Tr} {vs} {j : Nat} {t}, RdL h S ts vs → ts[j]? = some t → ∃ v, vs[j]? = some v ∧ Rd h S t v
  | [], vs, j, t, H, hj => by simp at hj
  | t' :: ts, vs, j, t, H, hj => by
    simp only [RdL] at H
    obtain ⟨v, us, rfl, h1, h2⟩ := H
    cases j with
    | zero => simp at hj; subst hj; exact ⟨v, rfl, h1⟩
    | succ j => simp at hj; simpa using RdL.get h2 hj
theorem OwL.get {h tg} : ∀ {ts : List Tr} {vs F} {j : Nat} {t}, OwL h tg ts vs F → ts[j]? = some t → ∃ v G, vs[j]? = some v ∧ Ow h tg t v G ∧ ∀ k, k ∈ G → k ∈ F
  | [], vs, F, j, t, H, hj => by simp at hj
  | t' :: ts, vs, F, j, t, H, hj => by
    simp only [OwL] at H
    obtain ⟨v, us, F1, F2, rfl, h1, h2, rfl⟩ := H
    cases j with
    | zero => simp at hj; subst hj; exact ⟨v, F1, rfl, h1, fun k hk => by simp [hk]⟩
    | succ j =>
      simp at hj
      obtain ⟨u, G, g1, g2, g3⟩ := OwL.get h2 hj
      exact ⟨u, G, by simpa using g1, g2, fun k hk => by simp [g3 k hk]⟩

/-! ### one cell each -/
theorem Ow.oneCell {h tg} : ∀ {t : Tr} {v F}, t.cellB = true → (∀ u, u ∈ tg → u.oneCell' = true) → Ow h tg t v F → v.oneCell' = true
  | .int .., v, F, _, _, H | .bool _, v, F, _, _, H | .str _, v, F, _, _, H => by simp only [Ow] at H; rw [H.1]; rfl
  | .row .., v, F, _, _, H => by
    simp only [Ow] at H
    rcases H.2 with ⟨A, rfl, _⟩ | ⟨g, cap, cur, e, fr, G, rfl, _⟩ <;> rfl
  | .box .., v, F, _, _, H => by
    simp only [Ow] at H
    obtain ⟨g, cur, e, fr, G, rfl, _⟩ := H; rfl
  | .tag k, v, F, _, ht, H => by simp only [Ow] at H; exact ht v (List.mem_of_getElem? H.1)
  | .hole, v, F, _, _, H => by simp only [Ow] at H; exact H.1
  | .agg _, v, F, hc, _, _ | .tup _, v, F, hc, _, _ => by simp [Tr.cellB] at hc

/-- what is owned may be read -/
theorem lt_of_get {h : Heap} {k : Nat} {o : Obj} (hk : h[k]? = some o) : k < h.size := (Array.getElem?_eq_some_iff.1 hk).1
mutual
theorem Ow.lt {h tg} : ∀ {t : Tr} {v F}, Ow h tg t v F → ∀ k, k ∈ F → k < h.size
  | .int .., v, F, H | .bool _, v, F, H | .str _, v, F, H | .tag _, v, F, H | .hole, v, F, H => by simp only [Ow] at H; simp [H.2]
  | .row .., v, F, H => by
    simp only [Ow] at H
    rcases H.2 with ⟨A, _, _, rfl⟩ | ⟨g, cap, cur, e, fr, G, _, h2, _, _, _, _, h7, rfl⟩
    · simp
    · intro k hk
      rcases List.mem_cons.1 hk with rfl | hk
      · exact lt_of_get h2
      · exact OwL.lt h7 k hk
  | .box .., v, F, H => by
    simp only [Ow] at H
    obtain ⟨g, cur, e, fr, G, _, h2, _, _, h4, rfl⟩ := H
    intro k hk
    rcases List.mem_cons.1 hk with rfl | hk
    · exact lt_of_get h2
    · exact OwL.lt h4 k hk
  | .agg cs, v, F, H | .tup cs, v, F, H => by
    simp only [Ow] at H
    obtain ⟨vs, _, h2⟩ := H
    exact OwL.lt h2
theorem OwL.lt {h tg} : ∀ {ts : List Tr} {vs F}, OwL h tg ts vs F → ∀ k, k ∈ F → k < h.size
  | [], vs, F, H => by simp only [OwL] at H; simp [H.2]
  | t :: ts, vs, F, H => by
    simp only [OwL] at H
    obtain ⟨v, us, F1, F2, _, h1, h2, rfl⟩ := H
    intro k hk
    rcases List.mem_append.1 hk with hk | hk
    · exact Ow.lt h1 k hk
    · exact OwL.lt h2 k hk
end
theorem cellAt_of {h : Heap} {g : Nat} {cur : Array Value} {e : Nat} {fr : Nat × Nat} (hg : h[g]? = some (.cells cur e fr)) (j : Nat) : cellAt h ⟨g, j, none⟩ = cur[j]? := by
  unfold cellAt; simp [hg]
theorem add_zero_off (g j : Nat) : (⟨g, 0, none⟩ : Addr).add j = ⟨g, j, none⟩ := by
  unfold Addr.add; split
  · subst_vars; rfl
  · simp
theorem add_off (g i j : Nat) : (⟨g, i, none⟩ : Addr).add j = ⟨g, i + j, none⟩ := by
  unfold Addr.add; split
  · subst_vars; rfl
  · simp
mutual
theorem Ow.rd {h tg} : ∀ {t : Tr} {v F}, Ow h tg t v F → t.plain → Rd h (fun k => k ∈ F) t v
  | .int .., v, F, H, _ | .bool _, v, F, H, _ | .str _, v, F, H, _ => by simp only [Ow] at H; simp only [Rd]; exact H.1
  | .row sz n cs, v, F, H, hp => by
    simp only [Ow] at H; simp only [Rd]
    obtain ⟨hl, H⟩ := H
    simp only [Tr.plain] at hp
    rcases H with ⟨A, rfl, rfl, rfl⟩ | ⟨g, cap, cur, e, fr, G, rfl, h2, h3, h4, h5, h6, h7, rfl⟩
    · have : cs = [] := List.length_eq_zero_iff.1 (by simpa using hl.1)
      subst this
      exact ⟨hl, A, 0, [], rfl, Nat.le_refl _, by unfold maxL; omega, by simp [RdL], fun h => absurd rfl h⟩
    · refine ⟨hl, _, cap, _, rfl, h5, h6, RdL.frame cs (OwL.rd h7 hp) (fun k hk => ⟨by simp [hk], rfl⟩), fun _ => ⟨_, rfl, by simp, fun j u hj => ?_⟩⟩
      rw [add_zero_off, cellAt_of h2, ← Array.getElem?_toList]
      rw [List.getElem?_take] at hj
      split at hj
      · exact hj
      · cases hj
  | .agg cs, v, F, H, hp => by
    simp only [Ow] at H; simp only [Rd]
    obtain ⟨vs, h1, h2⟩ := H
    exact ⟨vs, h1, OwL.rd h2 (by simpa only [Tr.plain] using hp)⟩
  | .box .., v, F, H, hp | .tag _, v, F, H, hp | .hole, v, F, H, hp | .tup _, v, F, H, hp => by simp only [Tr.plain] at hp
theorem OwL.rd {h tg} : ∀ {ts : List Tr} {vs F}, OwL h tg ts vs F → Tr.plainL ts → RdL h (fun k => k ∈ F) ts vs
  | [], vs, F, H, _ => by simp only [OwL] at H; simp only [RdL]; exact H.1
  | t :: ts, vs, F, H, hp => by
    simp only [OwL] at H; simp only [RdL]
    obtain ⟨v, us, F1, F2, rfl, h1, h2, rfl⟩ := H
    simp only [Tr.plainL] at hp
    exact ⟨v, us, rfl, Rd.frame t (Ow.rd h1 hp.1) (fun k hk => ⟨by simp [hk], rfl⟩), RdL.frame ts (OwL.rd h2 hp.2) (fun k hk => ⟨by simp [hk], rfl⟩)⟩
end
end Go.AM
