/- The law FnExactRoomOf answers true at every flow and stream: the program's RoomOf is the reference's. For every input; no condition. -/
import Derived.Test.YtejnagdmfooemaaSFnExactRoomOf
namespace Go.Proofs.Ytejnagdmfooemaa.Pure
open Go.RowKit Go.Proofs.Ytejnagdmfooemaa.QFnExactRoomOf Go.Proofs.YtejnagdmfooemaaW.PrintWords Go.Proofs.YtejnagdmfooemaaW.PrintLast Go.Proofs.YtejnagdmfooemaaW.PrintOpen
set_option linter.unusedVariables false
set_option linter.unusedSimpArgs false
theorem w64 {x : Int} (h0 : -9223372036854775808 ≤ x) (h1 : x ≤ 9223372036854775807) : wrap64 x = x := by unfold wrap64; omega
theorem wi {n m : Nat} (h : n < m) (hm : m ≤ 9223372036854775807) : wrap64 ((n : Int) + 1) = ((n + 1 : Nat) : Int) := by unfold wrap64; omega
theorem rdOf_mid {α : Type} (d : α) (p : List α) (s : α) (q : List α) : rdOf d (p ++ s :: q) (p.length : Int) = s := by simp [rdOf]
theorem set_mid {α : Type} (p : List α) (s v : α) (q : List α) : (p ++ s :: q).set ((p.length : Int)).toNat v = p ++ v :: q := by simp
theorem len_mid {α : Type} (p : List α) (s : α) (q : List α) : (p.length : Int) < ((p ++ s :: q).length : Int) := by simp; omega
theorem len_end {α : Type} (p : List α) : ¬ (p.length : Int) < ((p ++ []).length : Int) := by simp
theorem nn (n : Nat) : 0 ≤ (n : Int) := by omega
theorem rdOf_at {α : Type} (d : α) {p : List α} {s : α} {q : List α} {n : Nat} (h : p.length = n) : rdOf d (p ++ s :: q) (n : Int) = s := by subst h; exact rdOf_mid d p s q
theorem set_at {α : Type} {p : List α} {s v : α} {q : List α} {n : Nat} (h : p.length = n) : (p ++ s :: q).set ((n : Int)).toNat v = p ++ v :: q := by subst h; exact set_mid p s v q
theorem lt_at {α : Type} {p : List α} {s : α} {q : List α} {n : Nat} (h : p.length = n) : (n : Int) < ((p ++ s :: q).length : Int) := by subst h; exact len_mid p s q
theorem end_at {α : Type} {p : List α} {n : Nat} (h : p.length = n) : ¬ (n : Int) < ((p ++ []).length : Int) := by subst h; exact len_end p
theorem len_same {α : Type} {p p' q q' : List α} (h : p.length = p'.length) (h2 : q.length = q'.length) : (p ++ q).length = (p' ++ q').length := by simp [h, h2]
theorem rd_mid (p : List Int) (s : Int) (q : List Int) : rd (p ++ s :: q) (p.length : Int) = s := by simp [rd]
theorem rd_at {p : List Int} {s : Int} {q : List Int} {n : Nat} (h : p.length = n) : rd (p ++ s :: q) (n : Int) = s := by subst h; exact rd_mid p s q
theorem rdS_mid (p : List S48) (s : S48) (q : List S48) : rd_T48 (p ++ s :: q) (p.length : Int) = s := by simp [rd_T48]
theorem rdS_at {p : List S48} {s : S48} {q : List S48} {n : Nat} (h : p.length = n) : rd_T48 (p ++ s :: q) (n : Int) = s := by subst h; exact rdS_mid p s q
theorem rdL_at {p : List S68} {s : S68} {q : List S68} {n : Nat} (h : p.length = n) : rd_T68 (p ++ s :: q) (n : Int) = s := by subst h; simp [rd_T68]
def toL (x : S68) : S48 := ⟨x.f0, x.f1⟩
theorem toLS_l0 (q : List S68) : ∀ (p : List S68) (z : List S48) (n k : Nat), p.length = n → q.length < k → (p ++ q).length ≤ 9223372036854775807 → z.length = q.length → laws_toLaneS.l0 k (p ++ q) (p.map toL ++ z) (n : Int) = some ((p ++ q).map toL) := by
  induction q with
  | nil =>
    intro p z n k hp hk _ hz
    obtain ⟨k, rfl⟩ : ∃ m, k = m + 1 := ⟨k - 1, by simp at hk; omega⟩
    obtain rfl : z = [] := List.length_eq_zero_iff.mp (by simpa using hz)
    simp only [laws_toLaneS.l0]
    rw [if_neg (end_at hp)]
    simp
  | cons s q ih =>
    intro p z n k hp hk hl hz
    obtain ⟨k, rfl⟩ : ∃ m, k = m + 1 := ⟨k - 1, by simp at hk; omega⟩
    obtain ⟨y, z, rfl⟩ : ∃ y z', z = y :: z' := by cases z with | nil => simp at hz | cons y z => exact ⟨y, z, rfl⟩
    have hp2 : (p.map toL).length = n := by simpa using hp
    simp only [laws_toLaneS.l0, laws_toLane.f, Option.bind_some]
    rw [if_pos (lt_at hp), if_pos (nn _), if_pos (lt_at hp2), rdL_at hp, set_at hp2, wi (m := (p ++ s :: q).length) (by simp [hp] <;> omega) hl]
    have := ih (p ++ [s]) z (n + 1) k (by simp [hp]) (by simp at hk; omega) (by simpa using hl) (by simpa using hz)
    simpa [toL] using this
theorem toLS_f (l : List S68) (k : Nat) (hk : l.length < k) (hl : l.length ≤ 1048576) : laws_toLaneS.f k l = some (l.map toL) := by
  unfold laws_toLaneS.f
  rw [if_pos (nn _), if_pos (by simp <;> omega)]
  have := toLS_l0 l [] (List.replicate l.length z48) 0 k rfl hk (by simp <;> omega) (by simp)
  simpa using this
theorem toF_f (a b : Int) (l : List S68) (k : Nat) (hk : 1048577 < k) (hl : l.length ≤ 1048576) : laws_toFlow.f k a b l = some (a, b, l.map toL) := by
  unfold laws_toFlow.f
  rw [toLS_f l k (by omega) hl]; rfl
theorem szF_f (a b : Int) (l : List S68) (left : Int) (hl : l.length ≤ 9223372036854775807) (h0 : 0 ≤ left) (h1 : left ≤ 1048576) : ∃ r, laws_szFlow.f a b l left = some r ∧ (0 ≤ r → r + l.length = left) := by
  unfold laws_szFlow.f laws_szLaneS.f
  rw [w64 (by omega) (by omega)]
  by_cases c : left - (l.length : Int) < 0
  · rw [if_pos c]
    exact ⟨-1, by simp, fun h => by omega⟩
  · rw [if_neg c]
    simp only [Option.bind_some]
    rw [if_neg c]
    exact ⟨_, rfl, fun h => by omega⟩
theorem eqLS_l0 (q : List S48) : ∀ (p : List S48) (k : Nat), q.length < k → (p ++ q).length ≤ 9223372036854775807 → laws_eqLaneS.l0 k (p ++ q) (p ++ q) (p.length : Int) = some true := by
  induction q with
  | nil =>
    intro p k hk _
    obtain ⟨k, rfl⟩ : ∃ m, k = m + 1 := ⟨k - 1, by simp at hk; omega⟩
    simp only [laws_eqLaneS.l0]
    rw [if_neg (len_end p)]
  | cons s q ih =>
    intro p k hk hl
    obtain ⟨k, rfl⟩ : ∃ m, k = m + 1 := ⟨k - 1, by simp at hk; omega⟩
    simp only [laws_eqLaneS.l0, laws_eqLane.f, if_true, Option.bind_some]
    rw [if_pos (len_mid p s q), if_pos (nn _), if_pos (len_mid p s q), wi (m := (p ++ s :: q).length) (by simp <;> omega) hl]
    have := ih (p ++ [s]) k (by simp at hk; omega) (by simpa using hl)
    simpa using this
theorem eqLS_f (l : List S48) (k : Nat) (hk : l.length < k) (hl : l.length ≤ 1048577) : laws_eqLaneS.f k l l = some true := by
  unfold laws_eqLaneS.f
  rw [if_pos rfl]
  simpa using eqLS_l0 l [] k hk (by simp <;> omega)
theorem eqF_f (a b : Int) (l : List S48) (k : Nat) (hk : 1048580 < k) (hl : l.length ≤ 1048577) : laws_eqFlow.f k a b l a b l = some true := by
  unfold laws_eqFlow.f
  rw [if_pos rfl, if_pos rfl, eqLS_f l k (by omega) hl]; rfl
def okW (n : Int) : Bool := decide (0 ≤ n ∧ n ≤ 2147483647)
def okLeft (n : Int) : Bool := decide (-2147483647 ≤ n ∧ n ≤ 2147483647)
def okLanes (prev : Int) : List S48 → Bool
  | [] => true
  | x :: l => decide (prev < x.f0) && (okLeft x.f1 && okLanes x.f0 l)
def okF (a b : Int) (l : List S48) : Bool := okLanes 0 l && (okW a && (okW b && decide (l.length ≤ 100)))
def lastId (p : List S48) : Int := match p.getLast? with | some x => x.f0 | none => 0
theorem lastId_snoc (p : List S48) (x : S48) : lastId (p ++ [x]) = x.f0 := by simp [lastId]
def atL (id : Int) : Nat → List S48 → Int
  | _, [] => -1
  | n, x :: l => if x.f0 = id then (n : Int) else atL id (n + 1) l
theorem atL_spec (id : Int) : ∀ (l : List S48) (n : Nat), (atL id n l = -1 ∧ ∀ x ∈ l, x.f0 ≠ id) ∨ ∃ p x q, l = p ++ x :: q ∧ x.f0 = id ∧ (∀ y ∈ p, y.f0 ≠ id) ∧ atL id n l = ((n + p.length : Nat) : Int)
  | [], n => Or.inl ⟨rfl, by simp⟩
  | x :: l, n => by
    by_cases c : x.f0 = id
    · refine Or.inr ⟨[], x, l, rfl, c, by simp, ?_⟩
      simp [atL, c]
    · rcases atL_spec id l (n + 1) with ⟨h1, h2⟩ | ⟨p, y, q, h1, h2, h3, h4⟩
      · refine Or.inl ⟨by simp [atL, c, h1], ?_⟩
        intro y hy
        rcases List.mem_cons.1 hy with rfl | hy
        · exact c
        · exact h2 y hy
      · refine Or.inr ⟨x :: p, y, q, by rw [h1]; rfl, h2, ?_, ?_⟩
        · intro z hz
          rcases List.mem_cons.1 hz with rfl | hz
          · exact c
          · exact h3 z hz
        · simp only [atL]
          rw [if_neg c, h4]
          simp; omega
def roomL (a id : Int) : List S48 → Int
  | [] => 0
  | x :: l => if x.f0 = id then max (min a x.f1) 0 else roomL a id l
theorem roomL_none (a id : Int) : ∀ l : List S48, (∀ x ∈ l, x.f0 ≠ id) → roomL a id l = 0
  | [], _ => rfl
  | x :: l, h => by
    simp only [roomL]
    rw [if_neg (h x (by simp))]
    exact roomL_none a id l (fun y hy => h y (by simp [hy]))
theorem roomL_at (a id : Int) (x : S48) (q : List S48) (hx : x.f0 = id) : ∀ p : List S48, (∀ y ∈ p, y.f0 ≠ id) → roomL a id (p ++ x :: q) = max (min a x.f1) 0
  | [], _ => by simp [roomL, hx]
  | y :: p, h => by
    simp only [List.cons_append, roomL]
    rw [if_neg (h y (by simp))]
    exact roomL_at a id x q hx p (fun z hz => h z (by simp [hz]))
theorem sAt_l0 (a b id : Int) (q : List S48) : ∀ (p : List S48) (n k : Nat), p.length = n → q.length < k → (p ++ q).length ≤ 1048577 → spec_l10At.l0 k id (n : Int) a b (p ++ q) = some (atL id n q) := by
  induction q with
  | nil =>
    intro p n k hp hk hl
    obtain ⟨k, rfl⟩ : ∃ m, k = m + 1 := ⟨k - 1, by omega⟩
    simp only [spec_l10At.l0]
    rw [if_neg (end_at hp)]
    rfl
  | cons x q ih =>
    intro p n k hp hk hl
    obtain ⟨k, rfl⟩ : ∃ m, k = m + 1 := ⟨k - 1, by omega⟩
    simp only [List.length_cons] at hk
    have hl2 := hl
    simp only [List.length_append, List.length_cons] at hl2
    simp only [spec_l10At.l0, atL]
    rw [if_pos (lt_at hp), if_pos (nn _), rdS_at hp]
    by_cases c : x.f0 = id
    · rw [if_pos c, if_pos c]
    · rw [if_neg c, if_neg c, wi (m := n + 1) (by omega) (by omega)]
      have := ih (p ++ [x]) (n + 1) k (by simp [hp]) (by omega) (by simpa using hl)
      simpa using this
theorem sAt_f (a b id : Int) (l : List S48) (k : Nat) (hk : 1048580 < k) (hl : l.length ≤ 1048577) : spec_l10At.f k a b l id = some (atL id 0 l) := by
  unfold spec_l10At.f
  have := sAt_l0 a b id l [] 0 k rfl (by omega) (by simpa using hl)
  simpa using this
theorem sRoom_f (a b : Int) (l : List S48) (id : Int) (k : Nat) (hk : 1048580 < k) (hl : l.length ≤ 1048577) : spec_RoomOf.f k a b l id = some (roomL a id l) := by
  unfold spec_RoomOf.f
  rw [sAt_f a b id l k hk hl]
  simp only [Option.bind_some]
  rcases atL_spec id l 0 with ⟨h1, h2⟩ | ⟨p, x, q, rfl, hx, hp, h4⟩
  · rw [h1, if_pos (by omega), roomL_none a id l h2]
  · rw [h4, roomL_at a id x q hx p hp]
    simp only [Nat.zero_add]
    rw [if_neg (by omega), if_pos (nn _), if_pos (len_mid p x q), rdS_mid]
    by_cases c : x.f1 < a
    · rw [if_pos c]
      by_cases c2 : x.f1 < 0
      · rw [if_pos c2]; congr 1; omega
      · rw [if_neg c2]; congr 1; omega
    · rw [if_neg c]
      by_cases c2 : a < 0
      · rw [if_pos c2]; congr 1; omega
      · rw [if_neg c2]; congr 1; omega
theorem iRoom_l0 (a b id : Int) (q : List S48) : ∀ (p : List S48) (n k : Nat), p.length = n → q.length < k → (p ++ q).length ≤ 1048577 → impl_RoomOf.l0 k id (p ++ q) ((p ++ q).length : Int) (n : Int) a b (p ++ q) = some (roomL a id q) := by
  induction q with
  | nil =>
    intro p n k hp hk hl
    obtain ⟨k, rfl⟩ : ∃ m, k = m + 1 := ⟨k - 1, by omega⟩
    simp only [impl_RoomOf.l0]
    rw [if_neg (end_at hp)]
    rfl
  | cons x q ih =>
    intro p n k hp hk hl
    obtain ⟨k, rfl⟩ : ∃ m, k = m + 1 := ⟨k - 1, by omega⟩
    simp only [List.length_cons] at hk
    have hl2 := hl
    simp only [List.length_append, List.length_cons] at hl2
    simp only [impl_RoomOf.l0, roomL]
    rw [if_pos (lt_at hp), if_pos (nn _), if_pos (lt_at hp), rdS_at hp]
    by_cases c : x.f0 = id
    · rw [if_pos c, if_pos c]
      congr 1
      unfold mx mn
      omega
    · rw [if_neg c, if_neg c, wi (m := n + 1) (by omega) (by omega)]
      have := ih (p ++ [x]) (n + 1) k (by simp [hp]) (by omega) (by simpa using hl)
      simpa using this
theorem iRoom_f (a b : Int) (l : List S48) (id : Int) (k : Nat) (hk : 1048580 < k) (hl : l.length ≤ 1048577) : impl_RoomOf.f k a b l id = some (roomL a id l) := by
  unfold impl_RoomOf.f
  have := iRoom_l0 a b id l [] 0 k rfl (by omega) (by simpa using hl)
  simpa using this
theorem okLanes_map (f : S48 → S48) (hf : ∀ x, (f x).f0 = x.f0) : ∀ (l : List S48) (p : Int), okLanes p l = true → okLanes p (l.map f) = l.all (fun x => okLeft (f x).f1)
  | [], _, _ => rfl
  | x :: l, p, h => by
    simp only [okLanes, Bool.and_eq_true, decide_eq_true_eq] at h
    have ih := okLanes_map f hf l x.f0 h.2.2
    simp only [List.map_cons, okLanes, hf, List.all_cons, ih, h.1, decide_true, Bool.true_and]
theorem okLanes_left : ∀ (l : List S48) (p : Int), okLanes p l = true → ∀ x ∈ l, okLeft x.f1 = true
  | [], _, _, x, h => by simp at h
  | y :: l, p, h, x, hx => by
    simp only [okLanes, Bool.and_eq_true, decide_eq_true_eq] at h
    rcases List.mem_cons.1 hx with rfl | hx
    · exact h.2.1
    · exact okLanes_left l y.f0 h.2.2 x hx
theorem okF_parts {a b : Int} {l : List S48} (h : okF a b l = true) : okLanes 0 l = true ∧ okW a = true ∧ okW b = true ∧ l.length ≤ 100 := by
  simp only [okF, Bool.and_eq_true, decide_eq_true_eq] at h
  exact ⟨h.1, h.2.1, h.2.2.1, h.2.2.2⟩
def moved (d : Int) (x : S48) : S48 := ⟨x.f0, x.f1 + d⟩
def newD (a b : Int) (l : List S48) (n : Int) : Int × Int × List S48 × Bool :=
  if okW n = true ∧ okF a b l = true ∧ (l.all fun x => okLeft (moved (n - b) x).f1) = true then (a, n, l.map (moved (n - b)), true) else (a, b, l, false)
theorem newD_len (a b : Int) (l : List S48) (n : Int) : (newD a b l n).2.2.1.length = l.length := by
  unfold newD; split <;> simp
theorem FnExactRoomOf : laws_FnExactRoomOf.Pure := by
  intro a b l id _ _ hl _
  refine ⟨1048590, ?_⟩
  generalize hk : 1048590 = k
  obtain ⟨r, hr, hs⟩ := szF_f a b l 1048576 hl.1 (by omega) (by omega)
  unfold laws_FnExactRoomOf.f
  rw [hr]
  simp only [Option.bind_some]
  by_cases c : r < 0
  · rw [if_pos c]
  rw [if_neg c]
  have := hs (by omega)
  have hm : (l.map toL).length ≤ 1048577 := by simp; omega
  simp [toF_f a b l k (by omega) (by omega), sRoom_f a b (l.map toL) id k (by omega) hm, iRoom_f a b (l.map toL) id k (by omega) hm, eqF_f a b (l.map toL) k (by omega) hm]
end Go.Proofs.Ytejnagdmfooemaa.Pure
