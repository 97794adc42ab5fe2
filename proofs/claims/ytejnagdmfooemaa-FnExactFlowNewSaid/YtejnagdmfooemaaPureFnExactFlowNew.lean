/- The law FnExactFlowNew answers true at every number: the program's FlowNew is the reference's, in new memory, and again the same. For every input; no condition. -/
import Derived.Test.YtejnagdmfooemaaSFnExactFlowNew
namespace Go.Proofs.Ytejnagdmfooemaa.Pure
open Go.RowKit Go.Proofs.Ytejnagdmfooemaa.QFnExactFlowNew Go.Proofs.YtejnagdmfooemaaW.PrintWords Go.Proofs.YtejnagdmfooemaaW.PrintLast Go.Proofs.YtejnagdmfooemaaW.PrintOpen
set_option linter.unusedVariables false
set_option linter.unusedSimpArgs false
theorem w64 {x : Int} (h0 : -9223372036854775808 ≤ x) (h1 : x ≤ 9223372036854775807) : wrap64 x = x := by unfold wrap64; omega
theorem wi {n m : Nat} (h : n < m) (hm : m ≤ 9223372036854775807) : wrap64 ((n : Int) + 1) = ((n + 1 : Nat) : Int) := by unfold wrap64; omega
theorem rdOf_mid {α : Type} (d : α) (p : List α) (s : α) (q : List α) : rdOf d (p ++ s :: q) (p.length : Int) = s := by simp [rdOf]
theorem set_mid {α : Type} (p : List α) (s v : α) (q : List α) : (p ++ s :: q).set ((p.length : Int)).toNat v = p ++ v :: q := by simp
theorem len_mid {α : Type} (p : List α) (s : α) (q : List α) : (p.length : Int) < ((p ++ s :: q).length : Int) := by simp; omega
theorem len_end {α : Type} (p : List α) : ¬ (p.length : Int) < ((p ++ []).length : Int) := by simp
theorem nn (n : Nat) : 0 ≤ (n : Int) := by omega
theorem rdOf_at {α : Type} (d : α) {p : List α} {s : α} {q : List α} {n : Nat} (h : p.length = n) : rdOf d (p ++ s :: q) (n : Int) = s := by subst h; exact rdOf_mid d p s q
theorem set_at {α : Type} {p : List α} {s v : α} {q : List α} {n : Nat} (h : p.length = n) : (p ++ s :: q).set ((n : Int)).toNat v = p ++ v :: q := by subst h; exact set_mid p s v q
theorem lt_at {α : Type} {p : List α} {s : α} {q : List α} {n : Nat} (h : p.length = n) : (n : Int) < ((p ++ s :: q).length : Int) := by subst h; exact len_mid p s q
theorem end_at {α : Type} {p : List α} {n : Nat} (h : p.length = n) : ¬ (n : Int) < ((p ++ []).length : Int) := by subst h; exact len_end p
theorem len_same {α : Type} {p p' q q' : List α} (h : p.length = p'.length) (h2 : q.length = q'.length) : (p ++ q).length = (p' ++ q').length := by simp [h, h2]
theorem rd_mid (p : List Int) (s : Int) (q : List Int) : rd (p ++ s :: q) (p.length : Int) = s := by simp [rd]
theorem rd_at {p : List Int} {s : Int} {q : List Int} {n : Nat} (h : p.length = n) : rd (p ++ s :: q) (n : Int) = s := by subst h; exact rd_mid p s q
theorem inR_f (a b c : Int) : impl_inRange.f a b c = some (decide (b ≤ a ∧ a ≤ c)) := by
  unfold impl_inRange.f
  by_cases h : a ≥ b
  · rw [if_pos h]; simp [show b ≤ a from h]
  · rw [if_neg h]; simp [show ¬ b ≤ a from h]
theorem l1In_f (a b c : Int) : spec_l1In.f a b c = some (decide (b ≤ a ∧ a ≤ c)) := by
  unfold spec_l1In.f
  by_cases h : a ≥ b
  · rw [if_pos h]; simp [show b ≤ a from h]
  · rw [if_neg h]; simp [show ¬ b ≤ a from h]
theorem rdS_mid (p : List S48) (s : S48) (q : List S48) : rd_T48 (p ++ s :: q) (p.length : Int) = s := by simp [rd_T48]
theorem rdS_at {p : List S48} {s : S48} {q : List S48} {n : Nat} (h : p.length = n) : rd_T48 (p ++ s :: q) (n : Int) = s := by subst h; exact rdS_mid p s q
theorem eqLS_l0 (q : List S48) : ∀ (p : List S48) (k : Nat), q.length < k → (p ++ q).length ≤ 9223372036854775807 → laws_eqLaneS.l0 k (p ++ q) (p ++ q) (p.length : Int) = some true := by
  induction q with
  | nil =>
    intro p k hk _
    obtain ⟨k, rfl⟩ : ∃ m, k = m + 1 := ⟨k - 1, by simp at hk; omega⟩
    simp only [laws_eqLaneS.l0]
    rw [if_neg (len_end p)]
  | cons s q ih =>
    intro p k hk hl
    obtain ⟨k, rfl⟩ : ∃ m, k = m + 1 := ⟨k - 1, by simp at hk; omega⟩
    simp only [laws_eqLaneS.l0, laws_eqLane.f, if_true, Option.bind_some]
    rw [if_pos (len_mid p s q), if_pos (nn _), if_pos (len_mid p s q), wi (m := (p ++ s :: q).length) (by simp <;> omega) hl]
    have := ih (p ++ [s]) k (by simp at hk; omega) (by simpa using hl)
    simpa using this
theorem eqLS_f (l : List S48) (k : Nat) (hk : l.length < k) (hl : l.length ≤ 1048577) : laws_eqLaneS.f k l l = some true := by
  unfold laws_eqLaneS.f
  rw [if_pos rfl]
  simpa using eqLS_l0 l [] k hk (by simp <;> omega)
theorem eqF_f (a b : Int) (l : List S48) (k : Nat) (hk : 1048580 < k) (hl : l.length ≤ 1048577) : laws_eqFlow.f k a b l a b l = some true := by
  unfold laws_eqFlow.f
  rw [if_pos rfl, if_pos rfl, eqLS_f l k (by omega) hl]; rfl
def mkL : Int → Nat → List S48
  | _, 0 => []
  | m, n + 1 => ⟨m, m + 1⟩ :: mkL (m + 2) n
theorem mkL_s (m : Int) (n : Nat) : mkL m (n + 1) = ⟨m, m + 1⟩ :: mkL (m + 2) n := rfl
theorem mkLS_l0 (q : List S48) : ∀ (p : List S48) (n k : Nat) (m : Int), p.length = n → 0 ≤ m → q.length < k → m.toNat + 2 * q.length ≤ 1099511627776 → (p ++ q).length ≤ 9223372036854775807 → laws_markLaneS.l0 k (p ++ q) m (n : Int) = some (m + 2 * (q.length : Int), p ++ mkL m q.length) := by
  induction q with
  | nil =>
    intro p n k m hp h0 hk hm _
    obtain ⟨k, rfl⟩ : ∃ m, k = m + 1 := ⟨k - 1, by omega⟩
    simp only [laws_markLaneS.l0]
    rw [if_neg (end_at hp)]
    simp [mkL]
  | cons s q ih =>
    intro p n k m hp h0 hk hm hl
    obtain ⟨k, rfl⟩ : ∃ m, k = m + 1 := ⟨k - 1, by omega⟩
    simp only [List.length_cons] at hk hm
    simp only [laws_markLaneS.l0, Option.bind_some]
    rw [if_pos (lt_at hp), if_pos (nn _), rdS_at hp, set_at hp, rdS_at hp, set_at hp, w64 (x := m + 1) (by omega) (by omega), w64 (x := m + 1 + 1) (by omega) (by omega), wi (m := (p ++ s :: q).length) (by simp [hp] <;> omega) hl]
    have := ih (p ++ [⟨m, m + 1⟩]) (n + 1) k (m + 1 + 1) (by simp [hp]) (by omega) (by omega) (by omega) (by simpa using hl)
    simp only [List.append_assoc, List.cons_append, List.nil_append] at this
    rw [this]
    simp only [List.length_cons, mkL_s]
    rw [show m + 1 + 1 = m + 2 by omega]
    congr 2
    omega
theorem mkF_f (a b : Int) (l : List S48) (k : Nat) (hk : 1048580 < k) (hl : l.length ≤ 1048577) : laws_markFlow.f k a b l 1 = some ((1 : Int) + 2 * (l.length : Int), mkL 1 l.length) := by
  unfold laws_markFlow.f laws_markLaneS.f
  have := mkLS_l0 l [] 0 k 1 rfl (by omega) (by omega) (by omega) (by simp; omega)
  simp at this
  rw [this]; rfl
theorem hdLS_l0 (n : Nat) : ∀ (p : List S48) (i k : Nat) (m : Int), p.length = i → 0 ≤ m → n < k → m.toNat + 2 * n ≤ 1099511627776 → p.length + n ≤ 9223372036854775807 → laws_heldLaneS.l0 k (p ++ mkL m n) m (i : Int) = some (m + 2 * (n : Int)) := by
  induction n with
  | zero =>
    intro p i k m hp h0 hk hm _
    obtain ⟨k, rfl⟩ : ∃ m, k = m + 1 := ⟨k - 1, by omega⟩
    rw [show mkL m 0 = [] from rfl]
    simp only [laws_heldLaneS.l0]
    rw [if_neg (end_at hp)]
    simp
  | succ n ih =>
    intro p i k m hp h0 hk hm hl
    obtain ⟨k, rfl⟩ : ∃ m, k = m + 1 := ⟨k - 1, by omega⟩
    rw [mkL_s]
    simp only [laws_heldLaneS.l0]
    rw [if_pos (lt_at hp), if_pos (nn _), rdS_at hp, if_pos rfl, w64 (x := m + 1) (by omega) (by omega), if_pos rfl, w64 (x := m + 1 + 1) (by omega) (by omega), wi (m := i + 1) (by omega) (by omega)]
    have := ih (p ++ [⟨m, m + 1⟩]) (i + 1) k (m + 2) (by simp [hp]) (by omega) (by omega) (by omega) (by simp; omega)
    simp only [List.append_assoc, List.cons_append, List.nil_append] at this
    rw [show m + 1 + 1 = m + 2 by omega, this]
    congr 1
    omega
theorem hdF_f (a b : Int) (n : Nat) (k : Nat) (hk : 1048580 < k) (hl : n ≤ 1048577) : laws_heldFlow.f k a b (mkL 1 n) 1 = some ((1 : Int) + 2 * (n : Int)) := by
  unfold laws_heldFlow.f laws_heldLaneS.f
  have := hdLS_l0 n [] 0 k 1 rfl (by omega) (by omega) (by omega) (by simp; omega)
  simp only [List.nil_append] at this
  rw [show ((0 : Int)) = ((0 : Nat) : Int) from rfl, this]
  simp only [Option.bind_some]
  rw [if_neg (by omega)]
def okW (n : Int) : Bool := decide (0 ≤ n ∧ n ≤ 2147483647)
def okLeft (n : Int) : Bool := decide (-2147483647 ≤ n ∧ n ≤ 2147483647)
def okLanes (prev : Int) : List S48 → Bool
  | [] => true
  | x :: l => decide (prev < x.f0) && (okLeft x.f1 && okLanes x.f0 l)
def okF (a b : Int) (l : List S48) : Bool := okLanes 0 l && (okW a && (okW b && decide (l.length ≤ 100)))
def lastId (p : List S48) : Int := match p.getLast? with | some x => x.f0 | none => 0
theorem lastId_snoc (p : List S48) (x : S48) : lastId (p ++ [x]) = x.f0 := by simp [lastId]
def atL (id : Int) : Nat → List S48 → Int
  | _, [] => -1
  | n, x :: l => if x.f0 = id then (n : Int) else atL id (n + 1) l
theorem atL_spec (id : Int) : ∀ (l : List S48) (n : Nat), (atL id n l = -1 ∧ ∀ x ∈ l, x.f0 ≠ id) ∨ ∃ p x q, l = p ++ x :: q ∧ x.f0 = id ∧ (∀ y ∈ p, y.f0 ≠ id) ∧ atL id n l = ((n + p.length : Nat) : Int)
  | [], n => Or.inl ⟨rfl, by simp⟩
  | x :: l, n => by
    by_cases c : x.f0 = id
    · refine Or.inr ⟨[], x, l, rfl, c, by simp, ?_⟩
      simp [atL, c]
    · rcases atL_spec id l (n + 1) with ⟨h1, h2⟩ | ⟨p, y, q, h1, h2, h3, h4⟩
      · refine Or.inl ⟨by simp [atL, c, h1], ?_⟩
        intro y hy
        rcases List.mem_cons.1 hy with rfl | hy
        · exact c
        · exact h2 y hy
      · refine Or.inr ⟨x :: p, y, q, by rw [h1]; rfl, h2, ?_, ?_⟩
        · intro z hz
          rcases List.mem_cons.1 hz with rfl | hz
          · exact c
          · exact h3 z hz
        · simp only [atL]
          rw [if_neg c, h4]
          simp; omega
def roomL (a id : Int) : List S48 → Int
  | [] => 0
  | x :: l => if x.f0 = id then max (min a x.f1) 0 else roomL a id l
theorem roomL_none (a id : Int) : ∀ l : List S48, (∀ x ∈ l, x.f0 ≠ id) → roomL a id l = 0
  | [], _ => rfl
  | x :: l, h => by
    simp only [roomL]
    rw [if_neg (h x (by simp))]
    exact roomL_none a id l (fun y hy => h y (by simp [hy]))
theorem roomL_at (a id : Int) (x : S48) (q : List S48) (hx : x.f0 = id) : ∀ p : List S48, (∀ y ∈ p, y.f0 ≠ id) → roomL a id (p ++ x :: q) = max (min a x.f1) 0
  | [], _ => by simp [roomL, hx]
  | y :: p, h => by
    simp only [List.cons_append, roomL]
    rw [if_neg (h y (by simp))]
    exact roomL_at a id x q hx p (fun z hz => h z (by simp [hz]))
theorem okLanes_map (f : S48 → S48) (hf : ∀ x, (f x).f0 = x.f0) : ∀ (l : List S48) (p : Int), okLanes p l = true → okLanes p (l.map f) = l.all (fun x => okLeft (f x).f1)
  | [], _, _ => rfl
  | x :: l, p, h => by
    simp only [okLanes, Bool.and_eq_true, decide_eq_true_eq] at h
    have ih := okLanes_map f hf l x.f0 h.2.2
    simp only [List.map_cons, okLanes, hf, List.all_cons, ih, h.1, decide_true, Bool.true_and]
theorem okLanes_left : ∀ (l : List S48) (p : Int), okLanes p l = true → ∀ x ∈ l, okLeft x.f1 = true
  | [], _, _, x, h => by simp at h
  | y :: l, p, h, x, hx => by
    simp only [okLanes, Bool.and_eq_true, decide_eq_true_eq] at h
    rcases List.mem_cons.1 hx with rfl | hx
    · exact h.2.1
    · exact okLanes_left l y.f0 h.2.2 x hx
theorem okF_parts {a b : Int} {l : List S48} (h : okF a b l = true) : okLanes 0 l = true ∧ okW a = true ∧ okW b = true ∧ l.length ≤ 100 := by
  simp only [okF, Bool.and_eq_true, decide_eq_true_eq] at h
  exact ⟨h.1, h.2.1, h.2.2.1, h.2.2.2⟩
def moved (d : Int) (x : S48) : S48 := ⟨x.f0, x.f1 + d⟩
def newD (a b : Int) (l : List S48) (n : Int) : Int × Int × List S48 × Bool :=
  if okW n = true ∧ okF a b l = true ∧ (l.all fun x => okLeft (moved (n - b) x).f1) = true then (a, n, l.map (moved (n - b)), true) else (a, b, l, false)
theorem newD_len (a b : Int) (l : List S48) (n : Int) : (newD a b l n).2.2.1.length = l.length := by
  unfold newD; split <;> simp
theorem FnExactFlowNew : laws_FnExactFlowNew.Pure := by
  intro n _
  refine ⟨1048590, ?_⟩
  generalize hk : 1048590 = k
  have hw : impl_isWindow.f n = some (decide (0 ≤ n ∧ n ≤ 2147483647)) := by unfold impl_isWindow.f; rw [inR_f]; rfl
  have hs : ∃ a b, spec_FlowNew.f n = some (a, b, []) ∧ impl_FlowNew.f n = some (a, b, []) := by
    unfold spec_FlowNew.f impl_FlowNew.f
    rw [l1In_f, hw]
    simp only [Option.bind_some]
    by_cases c : decide (0 ≤ n ∧ n ≤ 2147483647) = true
    · rw [if_pos c]; exact ⟨_, _, rfl, rfl⟩
    · rw [if_neg c]; exact ⟨_, _, rfl, rfl⟩
  obtain ⟨a, b, h1, h2⟩ := hs
  unfold laws_FnExactFlowNew.f
  simp [h1, h2, eqF_f a b [] k (by omega) (by simp), mkF_f a b [] k (by omega) (by simp), mkL]
  have := hdF_f a b 0 k (by omega) (by omega)
  simp [mkL] at this
  simp [this]
end Go.Proofs.Ytejnagdmfooemaa.Pure
