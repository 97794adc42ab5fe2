/- AN ABSTRACT MACHINE, 2: abstract values, blocks, states; what is handed over a call and comes back; programs of single steps over the blocks (AM), with a log of what they meet: two that meet nothing of each other's may change places. No condition of its own. -/
import Derived.Test.YtbkpmljdmlhmhaaA0
set_option linter.unusedVariables false
set_option linter.unusedSimpArgs false
namespace Go.AM
open Go

inductive AV where
  | any
  | int (k : IntKind) (n : Int)
  | bool (b : Bool)
  | str (s : ByteArray)
  | agg (cs : List AV)
  | tup (cs : List AV)
  | nils
  | ro (tg : Option Nat) (sz n : Nat) (cs : List Tr)
  | own (nm g : Nat)
  | cut (nm g off n : Nat)
  | inn (nm g i j v : Nat)
  | ptr (nm g i off : Nat)
  | rptr (cs : List Tr)
  | fn (f : Nat)
  deriving Inhabited

inductive Blk where
  | row (g v sz n : Nat) (cs : List Tr)
  | box (g t : Nat) (cs : List AV)
  | gone (g : Nat)
  | lent (g v sz n : Nat)
  | lentB (g t : Nat)

abbrev Mem := Nat → Option Blk
def upd {α : Type} (f : Nat → α) (k : Nat) (x : α) : Nat → α := fun j => if j = k then x else f j
theorem upd_same {α : Type} (f : Nat → α) (k : Nat) (x : α) : upd f k x k = x := by simp [upd]
theorem upd_ne {α : Type} (f : Nat → α) {k j : Nat} (x : α) (h : j ≠ k) : upd f k x j = f j := by simp [upd, h]
theorem upd_comm {α : Type} (f : Nat → α) {k j : Nat} (x y : α) (h : j ≠ k) : upd (upd f k x) j y = upd (upd f j y) k x := by
  funext i; unfold upd; split <;> split <;> simp_all

structure AState where
  tm : Nat → AV
  mem : Mem
  gs : List AV      -- what has become of the parameters

/-- what is handed to a call -/
inductive PA where
  | ro (t : Tr)
  | own (t : Tr)
  | box (t : Nat) (cs : List PA)
  | agg (cs : List PA)
  | fn (f : Nat)
  | nils
/-- what has become of it -/
inductive PB where
  | keep
  | own (t : Tr)
  | gone
  | box (cs : List Tr)
  | agg (cs : List PB)

mutual
/-- of a result: the rows in it lead to nothing that was handed over for reading -/
def Tr.okR : Tr → Prop
  | .row _ _ cs => Tr.plainL cs
  | .agg cs => Tr.okRL cs ∧ cells1 cs
  | .tup cs | .box _ cs => Tr.okRL cs
  | _ => True
def Tr.okRL : List Tr → Prop
  | [] => True
  | t :: ts => Tr.okR t ∧ Tr.okRL ts
end
mutual
def PB.okR : PB → Prop
  | .own t => t.okR
  | .box cs => Tr.okRL cs
  | .agg ps => PB.okRL ps
  | _ => True
def PB.okRL : List PB → Prop
  | [] => True
  | p :: ps => PB.okR p ∧ PB.okRL ps
end
def Tr.isRow : Tr → Bool
  | .row .. => true
  | _ => false

mutual
def PAok (h : Heap) (S : Nat → Prop) : PA → Value → List Nat → List Value → Prop
  | .ro t, v, F, T => Rd h S t v ∧ F = [] ∧ T = if t.isRow then [v] else []
  | .own t, v, F, T => t.isRow = true ∧ Ow h [] t v F ∧ T = []
  | .box _ cs, v, F, T => ∃ g cur e fr G, v = .pointer (some ⟨g, 0, none⟩) ∧ h[g]? = some (.cells cur e fr) ∧ unfr fr cur.size ∧ PAokL h S cs cur.toList G T ∧ (∀ y, y ∈ cur.toList → y.oneCell' = true) ∧ F = g :: G
  | .agg cs, v, F, T => ∃ vs, v = .agg vs ∧ PAokL h S cs vs.toList F T ∧ ∀ y, y ∈ vs.toList → y.oneCell' = true
  | .fn f, v, F, T => v = .func (.func f) #[] #[] ∧ F = [] ∧ T = []
  | .nils, v, F, T => (∃ A, v = .slice A 0 0) ∧ F = [] ∧ T = []
def PAokL (h : Heap) (S : Nat → Prop) : List PA → List Value → List Nat → List Value → Prop
  | [], vs, F, T => vs = [] ∧ F = [] ∧ T = []
  | p :: ps, vs, F, T => ∃ v us F1 F2 T1 T2, vs = v :: us ∧ PAok h S p v F1 T1 ∧ PAokL h S ps us F2 T2 ∧ F = F1 ++ F2 ∧ T = T1 ++ T2
end
mutual
def PBok (h : Heap) (T : List Value) : PB → Value → List Nat → Prop
  | .keep, v, F => F = []
  | .own t, v, F => t.isRow = true ∧ Ow h T t v F
  | .gone, v, F => F = []
  | .box cs, v, F => ∃ g cur e fr G, v = .pointer (some ⟨g, 0, none⟩) ∧ h[g]? = some (.cells cur e fr) ∧ unfr fr cur.size ∧ cells1 cs ∧ OwL h T cs cur.toList G ∧ F = g :: G
  | .agg ps, v, F => ∃ vs, v = .agg vs ∧ PBokL h T ps vs.toList F
def PBokL (h : Heap) (T : List Value) : List PB → List Value → List Nat → Prop
  | [], vs, F => vs = [] ∧ F = []
  | p :: ps, vs, F => ∃ v us F1 F2, vs = v :: us ∧ PBok h T p v F1 ∧ PBokL h T ps us F2 ∧ F = F1 ++ F2
end

/-- From w, of which the blocks F may be turned, to w', where the blocks G are owned. -/
structure Fr (w : World) (F : List Nat) (w' : World) (G : List Nat) : Prop where
  os : w'.os = w.os
  tape : w'.tape = w.tape
  output : w'.output = w.output
  size : w.heap.size ≤ w'.heap.size
  same : ∀ k, k < w.heap.size → k ∉ F → w'.heap[k]? = w.heap[k]?
  own : ∀ k, k ∈ G → k ∈ F ∨ w.heap.size ≤ k

/-- what a call of f comes to: of a body, or of what the machine does itself -/
def CallF (P : Program) (f : Nat) (args : Array Value) (w : World) (R : Ending → World → Prop) : Prop :=
  match (callFunc f args).run P w with
  | .ok (.value v) w' => R (.returned v) w'
  | .ok (.enter g args) w' => Calls P g args w' R
  | _ => False
/-- what is known after it -/
def CallR (w : World) (vals : List Value) (F : List Nat) (T : List Value) (res : Tr) (pbs : List PB) (e : Ending) (w' : World) : Prop :=
  ∃ v F1 F2, e = .returned v ∧ Ow w'.heap T res v F1 ∧ PBokL w'.heap T pbs vals F2 ∧ (F1 ++ F2).Nodup ∧ Fr w F w' (F1 ++ F2)
/-- THE CONTRACT of a call: handed pas it answers res, and what was handed is pbs. -/
def AGood (P : Program) (f : Nat) (pas : List PA) (res : Tr) (pbs : List PB) : Prop := res.okR ∧ PB.okRL pbs ∧
  ∀ (w : World) (vals : List Value) (F : List Nat) (T : List Value), PAokL w.heap (fun k => k ∉ F ∧ k < w.heap.size) pas vals F T → F.Nodup → (∀ t, t ∈ T → t.oneCell' = true) →
    CallF P f vals.toArray w (CallR w vals F T res pbs)

/-- how slices are handed: to be read, as one's own, as one's own but nil as nil -/
inductive Hn where
  | ro
  | own
  | nil
/-! ### steps over the blocks -/
inductive AM (α : Type) where
  | ret (a : α)
  | fail
  | req (p : Prop) (k : AM α)
  | pick (k : Bool → AM α)      -- either: whichever it is
  | look (L : List Tr) (k : List Tr → AM α)      -- k L; whoever shows it may write L otherwise
  | get (nm : Nat) (k : Option Blk → AM α)
  | set (nm : Nat) (b : Blk) (k : AM α)
  | call (f : Nat) (pas : List PA) (k : Tr → List PB → AM α)
namespace AM
def bind {α β : Type} : AM α → (α → AM β) → AM β
  | .ret a, f => f a
  | .fail, _ => .fail
  | .req p k, f => .req p (k.bind f)
  | .pick k, f => .pick fun b => (k b).bind f
  | .look L k, f => .look L fun l => (k l).bind f
  | .get nm k, f => .get nm fun b => (k b).bind f
  | .set nm b k, f => .set nm b (k.bind f)
  | .call g pas k, f => .call g pas fun r pbs => (k r pbs).bind f
end AM

/-- p, at m, whatever is drawn on the way (u), may answer a, and leave m'; it met the names A, and turned W -/
def Ex (P : Program) {α : Type} : AM α → (Nat → Bool) → Mem → α → Mem → List Nat → List Nat → Prop
  | .ret a, u, m, x, m', A, W => x = a ∧ m' = m ∧ A = [] ∧ W = []
  | .fail, u, m, x, m', A, W => False
  | .req p k, u, m, x, m', A, W => p ∧ Ex P k u m x m' A W
  | .pick k, u, m, x, m', A, W => Ex P (k (u 0)) (fun i => u (i + 1)) m x m' A W
  | .look L k, u, m, x, m', A, W => Ex P (k L) u m x m' A W
  | .get nm k, u, m, x, m', A, W => ∃ B, A = nm :: B ∧ Ex P (k (m nm)) u m x m' B W
  | .set nm b k, u, m, x, m', A, W => ∃ B V, A = nm :: B ∧ W = nm :: V ∧ Ex P k u (upd m nm (some b)) x m' B V
  | .call f pas k, u, m, x, m', A, W => ∃ res pbs, AGood P f pas res pbs ∧ Ex P (k res pbs) u m x m' A W

theorem Ex.sub {P : Program} {α : Type} : ∀ (p : AM α) {u m x m' A W}, Ex P p u m x m' A W → ∀ k, k ∈ W → k ∈ A
  | .ret a, u, m, x, m', A, W, H => by simp only [Ex] at H; simp [H.2.2.2]
  | .fail, u, m, x, m', A, W, H => by simp only [Ex] at H
  | .req p k, u, m, x, m', A, W, H => by simp only [Ex] at H; exact Ex.sub k H.2
  | .pick k, u, m, x, m', A, W, H => by simp only [Ex] at H; exact Ex.sub (k (u 0)) H
  | .look L k, u, m, x, m', A, W, H => by simp only [Ex] at H; exact Ex.sub (k L) H
  | .get nm k, u, m, x, m', A, W, H => by
    simp only [Ex] at H
    obtain ⟨B, rfl, H⟩ := H
    intro j hj; exact List.mem_cons_of_mem _ (Ex.sub (k (m nm)) H j hj)
  | .set nm b k, u, m, x, m', A, W, H => by
    simp only [Ex] at H
    obtain ⟨B, V, rfl, rfl, H⟩ := H
    intro j hj
    rcases List.mem_cons.1 hj with rfl | hj
    · simp
    · exact List.mem_cons_of_mem _ (Ex.sub k H j hj)
  | .call f pas k, u, m, x, m', A, W, H => by
    simp only [Ex] at H
    obtain ⟨res, pbs, _, H⟩ := H
    exact Ex.sub (k res pbs) H
/-- what isn't turned stays -/
theorem Ex.stays {P : Program} {α : Type} : ∀ (p : AM α) {u m x m' A W}, Ex P p u m x m' A W → ∀ k, k ∉ W → m' k = m k
  | .ret a, u, m, x, m', A, W, H => by simp only [Ex] at H; simp [H.2.1]
  | .fail, u, m, x, m', A, W, H => by simp only [Ex] at H
  | .req p k, u, m, x, m', A, W, H => by simp only [Ex] at H; exact Ex.stays k H.2
  | .pick k, u, m, x, m', A, W, H => by simp only [Ex] at H; exact Ex.stays (k (u 0)) H
  | .look L k, u, m, x, m', A, W, H => by simp only [Ex] at H; exact Ex.stays (k L) H
  | .get nm k, u, m, x, m', A, W, H => by
    simp only [Ex] at H
    obtain ⟨B, rfl, H⟩ := H
    exact Ex.stays (k (m nm)) H
  | .set nm b k, u, m, x, m', A, W, H => by
    simp only [Ex] at H
    obtain ⟨B, V, rfl, rfl, H⟩ := H
    intro j hj
    rw [Ex.stays k H j (fun h => hj (List.mem_cons_of_mem _ h)), upd_ne _ _ (fun h => hj (by simp [h]))]
  | .call f pas k, u, m, x, m', A, W, H => by
    simp only [Ex] at H
    obtain ⟨res, pbs, _, H⟩ := H
    exact Ex.stays (k res pbs) H
def over (m : Mem) (W : List Nat) (m' : Mem) : Mem := fun k => if k ∈ W then m' k else m k
/-- it sees of the blocks what it meets alone -/
theorem Ex.local_ {P : Program} {α : Type} : ∀ (p : AM α) {u m x m' A W}, Ex P p u m x m' A W → ∀ n : Mem, (∀ k, k ∈ A → n k = m k) → Ex P p u n x (over n W m') A W
  | .ret a, u, m, x, m', A, W, H, n, hn => by
    simp only [Ex] at H ⊢
    obtain ⟨rfl, rfl, rfl, rfl⟩ := H
    exact ⟨rfl, by funext k; simp [over], rfl, rfl⟩
  | .fail, u, m, x, m', A, W, H, n, hn => by simp only [Ex] at H
  | .req p k, u, m, x, m', A, W, H, n, hn => by simp only [Ex] at H ⊢; exact ⟨H.1, Ex.local_ k H.2 n hn⟩
  | .pick k, u, m, x, m', A, W, H, n, hn => by simp only [Ex] at H ⊢; exact Ex.local_ (k (u 0)) H n hn
  | .look L k, u, m, x, m', A, W, H, n, hn => by simp only [Ex] at H ⊢; exact Ex.local_ (k L) H n hn
  | .get nm k, u, m, x, m', A, W, H, n, hn => by
    simp only [Ex] at H ⊢
    obtain ⟨B, rfl, H⟩ := H
    refine ⟨B, rfl, ?_⟩
    rw [hn nm (by simp)]
    exact Ex.local_ (k (m nm)) H n (fun j hj => hn j (by simp [hj]))
  | .set nm b k, u, m, x, m', A, W, H, n, hn => by
    simp only [Ex] at H ⊢
    obtain ⟨B, V, rfl, rfl, H⟩ := H
    refine ⟨B, V, rfl, rfl, ?_⟩
    have h1 := Ex.local_ k H (upd n nm (some b)) (fun j hj => by
      unfold upd; split
      · rfl
      · exact hn j (by simp [hj]))
    have h2 : over (upd n nm (some b)) V m' = over n (nm :: V) m' := by
      funext j
      unfold over
      by_cases hv : j ∈ V
      · simp [hv]
      · by_cases hj : j = nm
        · subst hj
          simp only [hv, if_false, List.mem_cons, true_or, if_true, upd_same]
          rw [Ex.stays k H j hv, upd_same]
        · simp [hv, hj, upd_ne]
    rw [← h2]; exact h1
  | .call f pas k, u, m, x, m', A, W, H, n, hn => by
    simp only [Ex] at H ⊢
    obtain ⟨res, pbs, hg, H⟩ := H
    exact ⟨res, pbs, hg, Ex.local_ (k res pbs) H n hn⟩
/-- two that turn nothing of what the other meets change places -/
theorem Ex.swap {P : Program} {α β : Type} {p : AM α} {q : AM β} {u u' m x m1 A W y m2 B V} (h1 : Ex P p u m x m1 A W) (h2 : Ex P q u' m1 y m2 B V)
    (hw : ∀ k, k ∈ W → k ∉ B) (hv : ∀ k, k ∈ V → k ∉ A) : Ex P q u' m y (over m V m2) B V ∧ Ex P p u (over m V m2) x m2 A W := by
  have q1 := Ex.local_ q h2 m (fun k hk => (Ex.stays p h1 k (fun h => hw k h hk)).symm)
  have p1 := Ex.local_ p h1 (over m V m2) (fun k hk => by unfold over; rw [if_neg (fun h => hv k h hk)])
  refine ⟨q1, ?_⟩
  have : over (over m V m2) W m1 = m2 := by
    funext k
    unfold over
    by_cases hk : k ∈ W
    · rw [if_pos hk, Ex.stays q h2 k (fun h => hw k hk (Ex.sub q h2 k h))]
    · rw [if_neg hk]
      by_cases hk2 : k ∈ V
      · rw [if_pos hk2]
      · rw [if_neg hk2, Ex.stays q h2 k hk2, Ex.stays p h1 k hk]
  rwa [this] at p1
end Go.AM
