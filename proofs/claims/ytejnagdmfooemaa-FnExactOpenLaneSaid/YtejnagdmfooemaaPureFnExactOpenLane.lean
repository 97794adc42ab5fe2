/- The law FnExactOpenLane answers true at every flow and stream: the program's OpenLane is the reference's, in new memory, and again the same. For every input; no condition. -/
import Derived.Test.YtejnagdmfooemaaSFnExactOpenLane
namespace Go.Proofs.Ytejnagdmfooemaa.Pure
open Go.RowKit Go.Proofs.Ytejnagdmfooemaa.QFnExactOpenLane Go.Proofs.YtejnagdmfooemaaW.PrintWords Go.Proofs.YtejnagdmfooemaaW.PrintLast Go.Proofs.YtejnagdmfooemaaW.PrintOpen
set_option linter.unusedVariables false
set_option linter.unusedSimpArgs false
theorem w64 {x : Int} (h0 : -9223372036854775808 ≤ x) (h1 : x ≤ 9223372036854775807) : wrap64 x = x := by unfold wrap64; omega
theorem wi {n m : Nat} (h : n < m) (hm : m ≤ 9223372036854775807) : wrap64 ((n : Int) + 1) = ((n + 1 : Nat) : Int) := by unfold wrap64; omega
theorem rdOf_mid {α : Type} (d : α) (p : List α) (s : α) (q : List α) : rdOf d (p ++ s :: q) (p.length : Int) = s := by simp [rdOf]
theorem set_mid {α : Type} (p : List α) (s v : α) (q : List α) : (p ++ s :: q).set ((p.length : Int)).toNat v = p ++ v :: q := by simp
theorem len_mid {α : Type} (p : List α) (s : α) (q : List α) : (p.length : Int) < ((p ++ s :: q).length : Int) := by simp; omega
theorem len_end {α : Type} (p : List α) : ¬ (p.length : Int) < ((p ++ []).length : Int) := by simp
theorem nn (n : Nat) : 0 ≤ (n : Int) := by omega
theorem rdOf_at {α : Type} (d : α) {p : List α} {s : α} {q : List α} {n : Nat} (h : p.length = n) : rdOf d (p ++ s :: q) (n : Int) = s := by subst h; exact rdOf_mid d p s q
theorem set_at {α : Type} {p : List α} {s v : α} {q : List α} {n : Nat} (h : p.length = n) : (p ++ s :: q).set ((n : Int)).toNat v = p ++ v :: q := by subst h; exact set_mid p s v q
theorem lt_at {α : Type} {p : List α} {s : α} {q : List α} {n : Nat} (h : p.length = n) : (n : Int) < ((p ++ s :: q).length : Int) := by subst h; exact len_mid p s q
theorem end_at {α : Type} {p : List α} {n : Nat} (h : p.length = n) : ¬ (n : Int) < ((p ++ []).length : Int) := by subst h; exact len_end p
theorem len_same {α : Type} {p p' q q' : List α} (h : p.length = p'.length) (h2 : q.length = q'.length) : (p ++ q).length = (p' ++ q').length := by simp [h, h2]
theorem rd_mid (p : List Int) (s : Int) (q : List Int) : rd (p ++ s :: q) (p.length : Int) = s := by simp [rd]
theorem rd_at {p : List Int} {s : Int} {q : List Int} {n : Nat} (h : p.length = n) : rd (p ++ s :: q) (n : Int) = s := by subst h; exact rd_mid p s q
theorem inR_f (a b c : Int) : impl_inRange.f a b c = some (decide (b ≤ a ∧ a ≤ c)) := by
  unfold impl_inRange.f
  by_cases h : a ≥ b
  · rw [if_pos h]; simp [show b ≤ a from h]
  · rw [if_neg h]; simp [show ¬ b ≤ a from h]
theorem l1In_f (a b c : Int) : spec_l1In.f a b c = some (decide (b ≤ a ∧ a ≤ c)) := by
  unfold spec_l1In.f
  by_cases h : a ≥ b
  · rw [if_pos h]; simp [show b ≤ a from h]
  · rw [if_neg h]; simp [show ¬ b ≤ a from h]
theorem rdS_mid (p : List S48) (s : S48) (q : List S48) : rd_T48 (p ++ s :: q) (p.length : Int) = s := by simp [rd_T48]
theorem rdS_at {p : List S48} {s : S48} {q : List S48} {n : Nat} (h : p.length = n) : rd_T48 (p ++ s :: q) (n : Int) = s := by subst h; exact rdS_mid p s q
theorem rdL_at {p : List S68} {s : S68} {q : List S68} {n : Nat} (h : p.length = n) : rd_T68 (p ++ s :: q) (n : Int) = s := by subst h; simp [rd_T68]
def toL (x : S68) : S48 := ⟨x.f0, x.f1⟩
theorem toLS_l0 (q : List S68) : ∀ (p : List S68) (z : List S48) (n k : Nat), p.length = n → q.length < k → (p ++ q).length ≤ 9223372036854775807 → z.length = q.length → laws_toLaneS.l0 k (p ++ q) (p.map toL ++ z) (n : Int) = some ((p ++ q).map toL) := by
  induction q with
  | nil =>
    intro p z n k hp hk _ hz
    obtain ⟨k, rfl⟩ : ∃ m, k = m + 1 := ⟨k - 1, by simp at hk; omega⟩
    obtain rfl : z = [] := List.length_eq_zero_iff.mp (by simpa using hz)
    simp only [laws_toLaneS.l0]
    rw [if_neg (end_at hp)]
    simp
  | cons s q ih =>
    intro p z n k hp hk hl hz
    obtain ⟨k, rfl⟩ : ∃ m, k = m + 1 := ⟨k - 1, by simp at hk; omega⟩
    obtain ⟨y, z, rfl⟩ : ∃ y z', z = y :: z' := by cases z with | nil => simp at hz | cons y z => exact ⟨y, z, rfl⟩
    have hp2 : (p.map toL).length = n := by simpa using hp
    simp only [laws_toLaneS.l0, laws_toLane.f, Option.bind_some]
    rw [if_pos (lt_at hp), if_pos (nn _), if_pos (lt_at hp2), rdL_at hp, set_at hp2, wi (m := (p ++ s :: q).length) (by simp [hp] <;> omega) hl]
    have := ih (p ++ [s]) z (n + 1) k (by simp [hp]) (by simp at hk; omega) (by simpa using hl) (by simpa using hz)
    simpa [toL] using this
theorem toLS_f (l : List S68) (k : Nat) (hk : l.length < k) (hl : l.length ≤ 1048576) : laws_toLaneS.f k l = some (l.map toL) := by
  unfold laws_toLaneS.f
  rw [if_pos (nn _), if_pos (by simp <;> omega)]
  have := toLS_l0 l [] (List.replicate l.length z48) 0 k rfl hk (by simp <;> omega) (by simp)
  simpa using this
theorem toF_f (a b : Int) (l : List S68) (k : Nat) (hk : 1048577 < k) (hl : l.length ≤ 1048576) : laws_toFlow.f k a b l = some (a, b, l.map toL) := by
  unfold laws_toFlow.f
  rw [toLS_f l k (by omega) hl]; rfl
theorem szF_f (a b : Int) (l : List S68) (left : Int) (hl : l.length ≤ 9223372036854775807) (h0 : 0 ≤ left) (h1 : left ≤ 1048576) : ∃ r, laws_szFlow.f a b l left = some r ∧ (0 ≤ r → r + l.length = left) := by
  unfold laws_szFlow.f laws_szLaneS.f
  rw [w64 (by omega) (by omega)]
  by_cases c : left - (l.length : Int) < 0
  · rw [if_pos c]
    exact ⟨-1, by simp, fun h => by omega⟩
  · rw [if_neg c]
    simp only [Option.bind_some]
    rw [if_neg c]
    exact ⟨_, rfl, fun h => by omega⟩
theorem eqLS_l0 (q : List S48) : ∀ (p : List S48) (k : Nat), q.length < k → (p ++ q).length ≤ 9223372036854775807 → laws_eqLaneS.l0 k (p ++ q) (p ++ q) (p.length : Int) = some true := by
  induction q with
  | nil =>
    intro p k hk _
    obtain ⟨k, rfl⟩ : ∃ m, k = m + 1 := ⟨k - 1, by simp at hk; omega⟩
    simp only [laws_eqLaneS.l0]
    rw [if_neg (len_end p)]
  | cons s q ih =>
    intro p k hk hl
    obtain ⟨k, rfl⟩ : ∃ m, k = m + 1 := ⟨k - 1, by simp at hk; omega⟩
    simp only [laws_eqLaneS.l0, laws_eqLane.f, if_true, Option.bind_some]
    rw [if_pos (len_mid p s q), if_pos (nn _), if_pos (len_mid p s q), wi (m := (p ++ s :: q).length) (by simp <;> omega) hl]
    have := ih (p ++ [s]) k (by simp at hk; omega) (by simpa using hl)
    simpa using this
theorem eqLS_f (l : List S48) (k : Nat) (hk : l.length < k) (hl : l.length ≤ 1048577) : laws_eqLaneS.f k l l = some true := by
  unfold laws_eqLaneS.f
  rw [if_pos rfl]
  simpa using eqLS_l0 l [] k hk (by simp <;> omega)
theorem eqF_f (a b : Int) (l : List S48) (k : Nat) (hk : 1048580 < k) (hl : l.length ≤ 1048577) : laws_eqFlow.f k a b l a b l = some true := by
  unfold laws_eqFlow.f
  rw [if_pos rfl, if_pos rfl, eqLS_f l k (by omega) hl]; rfl
def mkL : Int → Nat → List S48
  | _, 0 => []
  | m, n + 1 => ⟨m, m + 1⟩ :: mkL (m + 2) n
theorem mkL_s (m : Int) (n : Nat) : mkL m (n + 1) = ⟨m, m + 1⟩ :: mkL (m + 2) n := rfl
theorem mkLS_l0 (q : List S48) : ∀ (p : List S48) (n k : Nat) (m : Int), p.length = n → 0 ≤ m → q.length < k → m.toNat + 2 * q.length ≤ 1099511627776 → (p ++ q).length ≤ 9223372036854775807 → laws_markLaneS.l0 k (p ++ q) m (n : Int) = some (m + 2 * (q.length : Int), p ++ mkL m q.length) := by
  induction q with
  | nil =>
    intro p n k m hp h0 hk hm _
    obtain ⟨k, rfl⟩ : ∃ m, k = m + 1 := ⟨k - 1, by omega⟩
    simp only [laws_markLaneS.l0]
    rw [if_neg (end_at hp)]
    simp [mkL]
  | cons s q ih =>
    intro p n k m hp h0 hk hm hl
    obtain ⟨k, rfl⟩ : ∃ m, k = m + 1 := ⟨k - 1, by omega⟩
    simp only [List.length_cons] at hk hm
    simp only [laws_markLaneS.l0, Option.bind_some]
    rw [if_pos (lt_at hp), if_pos (nn _), rdS_at hp, set_at hp, rdS_at hp, set_at hp, w64 (x := m + 1) (by omega) (by omega), w64 (x := m + 1 + 1) (by omega) (by omega), wi (m := (p ++ s :: q).length) (by simp [hp] <;> omega) hl]
    have := ih (p ++ [⟨m, m + 1⟩]) (n + 1) k (m + 1 + 1) (by simp [hp]) (by omega) (by omega) (by omega) (by simpa using hl)
    simp only [List.append_assoc, List.cons_append, List.nil_append] at this
    rw [this]
    simp only [List.length_cons, mkL_s]
    rw [show m + 1 + 1 = m + 2 by omega]
    congr 2
    omega
theorem mkF_f (a b : Int) (l : List S48) (k : Nat) (hk : 1048580 < k) (hl : l.length ≤ 1048577) : laws_markFlow.f k a b l 1 = some ((1 : Int) + 2 * (l.length : Int), mkL 1 l.length) := by
  unfold laws_markFlow.f laws_markLaneS.f
  have := mkLS_l0 l [] 0 k 1 rfl (by omega) (by omega) (by omega) (by simp; omega)
  simp at this
  rw [this]; rfl
theorem hdLS_l0 (n : Nat) : ∀ (p : List S48) (i k : Nat) (m : Int), p.length = i → 0 ≤ m → n < k → m.toNat + 2 * n ≤ 1099511627776 → p.length + n ≤ 9223372036854775807 → laws_heldLaneS.l0 k (p ++ mkL m n) m (i : Int) = some (m + 2 * (n : Int)) := by
  induction n with
  | zero =>
    intro p i k m hp h0 hk hm _
    obtain ⟨k, rfl⟩ : ∃ m, k = m + 1 := ⟨k - 1, by omega⟩
    rw [show mkL m 0 = [] from rfl]
    simp only [laws_heldLaneS.l0]
    rw [if_neg (end_at hp)]
    simp
  | succ n ih =>
    intro p i k m hp h0 hk hm hl
    obtain ⟨k, rfl⟩ : ∃ m, k = m + 1 := ⟨k - 1, by omega⟩
    rw [mkL_s]
    simp only [laws_heldLaneS.l0]
    rw [if_pos (lt_at hp), if_pos (nn _), rdS_at hp, if_pos rfl, w64 (x := m + 1) (by omega) (by omega), if_pos rfl, w64 (x := m + 1 + 1) (by omega) (by omega), wi (m := i + 1) (by omega) (by omega)]
    have := ih (p ++ [⟨m, m + 1⟩]) (i + 1) k (m + 2) (by simp [hp]) (by omega) (by omega) (by omega) (by simp; omega)
    simp only [List.append_assoc, List.cons_append, List.nil_append] at this
    rw [show m + 1 + 1 = m + 2 by omega, this]
    congr 1
    omega
theorem hdF_f (a b : Int) (n : Nat) (k : Nat) (hk : 1048580 < k) (hl : n ≤ 1048577) : laws_heldFlow.f k a b (mkL 1 n) 1 = some ((1 : Int) + 2 * (n : Int)) := by
  unfold laws_heldFlow.f laws_heldLaneS.f
  have := hdLS_l0 n [] 0 k 1 rfl (by omega) (by omega) (by omega) (by simp; omega)
  simp only [List.nil_append] at this
  rw [show ((0 : Int)) = ((0 : Nat) : Int) from rfl, this]
  simp only [Option.bind_some]
  rw [if_neg (by omega)]
def okW (n : Int) : Bool := decide (0 ≤ n ∧ n ≤ 2147483647)
def okLeft (n : Int) : Bool := decide (-2147483647 ≤ n ∧ n ≤ 2147483647)
def okLanes (prev : Int) : List S48 → Bool
  | [] => true
  | x :: l => decide (prev < x.f0) && (okLeft x.f1 && okLanes x.f0 l)
def okF (a b : Int) (l : List S48) : Bool := okLanes 0 l && (okW a && (okW b && decide (l.length ≤ 100)))
def lastId (p : List S48) : Int := match p.getLast? with | some x => x.f0 | none => 0
theorem lastId_snoc (p : List S48) (x : S48) : lastId (p ++ [x]) = x.f0 := by simp [lastId]
theorem sOk_l0 (a b : Int) (q : List S48) : ∀ (p : List S48) (n k : Nat), p.length = n → q.length < k → (p ++ q).length ≤ 1048577 → 0 ≤ lastId p → (p = [] ∨ 1 ≤ lastId p) → spec_FlowOk.l0 k (n : Int) a b (p ++ q) = some (okLanes (lastId p) q && (okW a && (okW b && decide ((p ++ q).length ≤ 100)))) := by
  induction q with
  | nil =>
    intro p n k hp hk hl hi _
    obtain ⟨k, rfl⟩ : ∃ m, k = m + 1 := ⟨k - 1, by omega⟩
    simp only [spec_FlowOk.l0]
    rw [if_neg (end_at hp), l1In_f, l1In_f]
    simp only [Option.bind_some, okLanes, Bool.true_and]
    by_cases c1 : okW a = true
    · rw [if_pos (by simpa [okW] using c1)]
      by_cases c2 : okW b = true
      · rw [if_pos (by simpa [okW] using c2)]
        simp [c1, c2]; omega
      · rw [if_neg (by simpa [okW] using c2)]; simp [c1, c2]
    · rw [if_neg (by simpa [okW] using c1)]; simp [c1]
  | cons x q ih =>
    intro p n k hp hk hl hi hi1
    obtain ⟨k, rfl⟩ : ∃ m, k = m + 1 := ⟨k - 1, by omega⟩
    simp only [List.length_cons] at hk
    have hl2 := hl
    simp only [List.length_append, List.length_cons] at hl2
    simp only [spec_FlowOk.l0]
    rw [if_pos (lt_at hp), if_pos (nn _), rdS_at hp, l1In_f]
    simp only [Option.bind_some, okLanes]
    by_cases c1 : x.f0 < 1
    · rw [if_pos c1]
      have : ¬ lastId p < x.f0 := by omega
      simp [this]
    · rw [if_neg c1]
      by_cases c2 : okLeft x.f1 = true
      · rw [if_pos (by simpa [okLeft] using c2)]
        have hnext : spec_FlowOk.l0 k (wrap64 ((n : Int) + 1)) a b (p ++ x :: q) = some (okLanes x.f0 q && (okW a && (okW b && decide ((p ++ x :: q).length ≤ 100)))) := by
          rw [wi (m := n + 1) (by omega) (by omega)]
          have := ih (p ++ [x]) (n + 1) k (by simp [hp]) (by omega) (by simpa using hl) (by rw [lastId_snoc]; omega) (Or.inr (by rw [lastId_snoc]; omega))
          rw [lastId_snoc] at this
          simpa using this
        by_cases c3 : (n : Int) > 0
        · rw [if_pos c3, w64 (x := (n : Int) - 1) (by omega) (by omega), if_pos (by omega), if_pos (by simp; omega)]
          obtain ⟨p', y, rfl⟩ : ∃ p' y, p = p' ++ [y] := by
            rcases List.eq_nil_or_concat p with h | ⟨p', y, h⟩
            · subst h; simp at hp; omega
            · exact ⟨p', y, by simpa using h⟩
          have hp' : p'.length = n - 1 := by simp at hp; omega
          have hrd : rd_T48 (p' ++ [y] ++ x :: q) ((n : Int) - 1) = y := by
            rw [show (n : Int) - 1 = ((n - 1 : Nat) : Int) by omega, List.append_assoc]
            exact rdS_at hp'
          rw [hrd, lastId_snoc]
          by_cases c4 : y.f0 ≥ x.f0
          · rw [if_pos c4]
            have : ¬ y.f0 < x.f0 := by omega
            simp [this]
          · rw [if_neg c4, hnext]
            have : y.f0 < x.f0 := by omega
            simp [this, c2]
        · rw [if_neg c3, hnext]
          have hp0 : p = [] := List.length_eq_zero_iff.mp (by omega)
          subst hp0
          have h1 : lastId [] < x.f0 := by simp [lastId]; omega
          simp [h1, c2]
      · rw [if_neg (by simpa [okLeft] using c2)]
        simp [c2]
theorem sOk_f (a b : Int) (l : List S48) (k : Nat) (hk : 1048580 < k) (hl : l.length ≤ 1048577) : spec_FlowOk.f k a b l = some (okF a b l) := by
  unfold spec_FlowOk.f okF
  have := sOk_l0 a b l [] 0 k rfl (by omega) (by simpa using hl) (by simp [lastId]) (Or.inl rfl)
  simpa [lastId] using this
theorem isW_f (n : Int) : impl_isWindow.f n = some (okW n) := by
  unfold impl_isWindow.f; rw [inR_f]; rfl
theorem iOk_l0 (a b : Int) (q : List S48) : ∀ (p : List S48) (n k : Nat), p.length = n → q.length < k → (p ++ q).length ≤ 1048577 → 0 ≤ lastId p → (p = [] ∨ 1 ≤ lastId p) → impl_FlowOk.l0 k (p ++ q) ((p ++ q).length : Int) (n : Int) a b (p ++ q) = some (okLanes (lastId p) q && (okW a && (okW b && decide ((p ++ q).length ≤ 100)))) := by
  induction q with
  | nil =>
    intro p n k hp hk hl hi _
    obtain ⟨k, rfl⟩ : ∃ m, k = m + 1 := ⟨k - 1, by omega⟩
    simp only [impl_FlowOk.l0]
    rw [if_neg (end_at hp), isW_f, isW_f]
    simp only [Option.bind_some, okLanes, Bool.true_and]
    by_cases c1 : okW a = true
    · rw [if_pos c1]
      by_cases c2 : okW b = true
      · rw [if_pos c2]
        simp [c1, c2]; omega
      · rw [if_neg c2]; simp [c1, c2]
    · rw [if_neg c1]; simp [c1]
  | cons x q ih =>
    intro p n k hp hk hl hi hi1
    obtain ⟨k, rfl⟩ : ∃ m, k = m + 1 := ⟨k - 1, by omega⟩
    simp only [List.length_cons] at hk
    have hl2 := hl
    simp only [List.length_append, List.length_cons] at hl2
    have hN : ((p ++ x :: q).length : Int) = (((p ++ [x]) ++ q).length : Int) := by simp
    have hnext : okLeft x.f1 = true → ¬ x.f0 < 1 → impl_FlowOk.l0 k (p ++ x :: q) ((p ++ x :: q).length : Int) (wrap64 ((n : Int) + 1)) a b (p ++ x :: q) = some (okLanes x.f0 q && (okW a && (okW b && decide ((p ++ x :: q).length ≤ 100)))) := by
      intro h1 h2
      rw [wi (m := n + 1) (by omega) (by omega)]
      have := ih (p ++ [x]) (n + 1) k (by simp [hp]) (by omega) (by simpa using hl) (by rw [lastId_snoc]; omega) (Or.inr (by rw [lastId_snoc]; omega))
      rw [lastId_snoc] at this
      simpa using this
    simp only [impl_FlowOk.l0]
    rw [if_pos (lt_at hp), if_pos (nn _), if_pos (lt_at hp), rdS_at hp, inR_f]
    simp only [Option.bind_some, okLanes]
    by_cases c1 : x.f0 < 1
    · rw [if_pos c1]
      have : ¬ lastId p < x.f0 := by omega
      simp [this]
    · rw [if_neg c1]
      by_cases c3 : (n : Int) > 0
      · rw [if_pos c3, w64 (x := (n : Int) - 1) (by omega) (by omega), if_pos (by omega), if_pos (by simp; omega)]
        obtain ⟨p', y, rfl⟩ : ∃ p' y, p = p' ++ [y] := by
          rcases List.eq_nil_or_concat p with h | ⟨p', y, h⟩
          · subst h; simp at hp; omega
          · exact ⟨p', y, by simpa using h⟩
        have hp' : p'.length = n - 1 := by simp at hp; omega
        have hrd : rd_T48 (p' ++ [y] ++ x :: q) ((n : Int) - 1) = y := by
          rw [show (n : Int) - 1 = ((n - 1 : Nat) : Int) by omega, List.append_assoc]
          exact rdS_at hp'
        rw [hrd, lastId_snoc]
        by_cases c4 : x.f0 ≤ y.f0
        · rw [if_pos c4]
          have : ¬ y.f0 < x.f0 := by omega
          simp [this]
        · rw [if_neg c4]
          have h4 : y.f0 < x.f0 := by omega
          by_cases c2 : okLeft x.f1 = true
          · rw [if_pos (by simpa [okLeft] using c2), hnext c2 c1]
            simp [h4, c2]
          · rw [if_neg (by simpa [okLeft] using c2)]; simp [c2]
      · rw [if_neg c3]
        have hp0 : p = [] := List.length_eq_zero_iff.mp (by omega)
        subst hp0
        have h1 : lastId [] < x.f0 := by simp [lastId]; omega
        by_cases c2 : okLeft x.f1 = true
        · rw [if_pos (by simpa [okLeft] using c2), hnext c2 c1]
          simp [h1, c2]
        · rw [if_neg (by simpa [okLeft] using c2)]; simp [c2]
theorem iOk_f (a b : Int) (l : List S48) (k : Nat) (hk : 1048580 < k) (hl : l.length ≤ 1048577) : impl_FlowOk.f k a b l = some (okF a b l) := by
  unfold impl_FlowOk.f okF
  have := iOk_l0 a b l [] 0 k rfl (by omega) (by simpa using hl) (by simp [lastId]) (Or.inl rfl)
  simpa [lastId] using this
def atL (id : Int) : Nat → List S48 → Int
  | _, [] => -1
  | n, x :: l => if x.f0 = id then (n : Int) else atL id (n + 1) l
theorem atL_spec (id : Int) : ∀ (l : List S48) (n : Nat), (atL id n l = -1 ∧ ∀ x ∈ l, x.f0 ≠ id) ∨ ∃ p x q, l = p ++ x :: q ∧ x.f0 = id ∧ (∀ y ∈ p, y.f0 ≠ id) ∧ atL id n l = ((n + p.length : Nat) : Int)
  | [], n => Or.inl ⟨rfl, by simp⟩
  | x :: l, n => by
    by_cases c : x.f0 = id
    · refine Or.inr ⟨[], x, l, rfl, c, by simp, ?_⟩
      simp [atL, c]
    · rcases atL_spec id l (n + 1) with ⟨h1, h2⟩ | ⟨p, y, q, h1, h2, h3, h4⟩
      · refine Or.inl ⟨by simp [atL, c, h1], ?_⟩
        intro y hy
        rcases List.mem_cons.1 hy with rfl | hy
        · exact c
        · exact h2 y hy
      · refine Or.inr ⟨x :: p, y, q, by rw [h1]; rfl, h2, ?_, ?_⟩
        · intro z hz
          rcases List.mem_cons.1 hz with rfl | hz
          · exact c
          · exact h3 z hz
        · simp only [atL]
          rw [if_neg c, h4]
          simp; omega
def roomL (a id : Int) : List S48 → Int
  | [] => 0
  | x :: l => if x.f0 = id then max (min a x.f1) 0 else roomL a id l
theorem roomL_none (a id : Int) : ∀ l : List S48, (∀ x ∈ l, x.f0 ≠ id) → roomL a id l = 0
  | [], _ => rfl
  | x :: l, h => by
    simp only [roomL]
    rw [if_neg (h x (by simp))]
    exact roomL_none a id l (fun y hy => h y (by simp [hy]))
theorem roomL_at (a id : Int) (x : S48) (q : List S48) (hx : x.f0 = id) : ∀ p : List S48, (∀ y ∈ p, y.f0 ≠ id) → roomL a id (p ++ x :: q) = max (min a x.f1) 0
  | [], _ => by simp [roomL, hx]
  | y :: p, h => by
    simp only [List.cons_append, roomL]
    rw [if_neg (h y (by simp))]
    exact roomL_at a id x q hx p (fun z hz => h z (by simp [hz]))
theorem sAt_l0 (a b id : Int) (q : List S48) : ∀ (p : List S48) (n k : Nat), p.length = n → q.length < k → (p ++ q).length ≤ 1048577 → spec_l10At.l0 k id (n : Int) a b (p ++ q) = some (atL id n q) := by
  induction q with
  | nil =>
    intro p n k hp hk hl
    obtain ⟨k, rfl⟩ : ∃ m, k = m + 1 := ⟨k - 1, by omega⟩
    simp only [spec_l10At.l0]
    rw [if_neg (end_at hp)]
    rfl
  | cons x q ih =>
    intro p n k hp hk hl
    obtain ⟨k, rfl⟩ : ∃ m, k = m + 1 := ⟨k - 1, by omega⟩
    simp only [List.length_cons] at hk
    have hl2 := hl
    simp only [List.length_append, List.length_cons] at hl2
    simp only [spec_l10At.l0, atL]
    rw [if_pos (lt_at hp), if_pos (nn _), rdS_at hp]
    by_cases c : x.f0 = id
    · rw [if_pos c, if_pos c]
    · rw [if_neg c, if_neg c, wi (m := n + 1) (by omega) (by omega)]
      have := ih (p ++ [x]) (n + 1) k (by simp [hp]) (by omega) (by simpa using hl)
      simpa using this
theorem sAt_f (a b id : Int) (l : List S48) (k : Nat) (hk : 1048580 < k) (hl : l.length ≤ 1048577) : spec_l10At.f k a b l id = some (atL id 0 l) := by
  unfold spec_l10At.f
  have := sAt_l0 a b id l [] 0 k rfl (by omega) (by simpa using hl)
  simpa using this
theorem l10Copy_f (a b : Int) (l : List S48) (hl : l.length ≤ 1048577) : spec_l10Copy.f a b l = some (a, b, l) := by
  unfold spec_l10Copy.f
  simp only [Option.bind_some]
  rw [if_pos (by simp; omega)]
  simp
theorem copyF_f (a b : Int) (l : List S48) (hl : l.length ≤ 1048577) : impl_copyFlow.f a b l = some (a, b, l) := by
  unfold impl_copyFlow.f slices_Clone_Lane.f
  simp only [Option.bind_some]
  rw [if_pos (by simp; omega)]
  simp
def endsD (a b : Int) (l : List S48) (a' b' : Int) (l' : List S48) (ok : Bool) : Int × Int × List S48 × Bool := if ok = true ∧ okF a b l = true ∧ okF a' b' l' = true then (a', b', l', true) else (a, b, l, false)
theorem ends_f (a b : Int) (l : List S48) (a' b' : Int) (l' : List S48) (ok : Bool) (k : Nat) (hk : 1048580 < k) (hl : l.length ≤ 1048577) (hl' : l'.length ≤ 1048577) : spec_l10Ends.f k a b l a' b' l' ok = some (endsD a b l a' b' l' ok) := by
  unfold spec_l10Ends.f endsD
  rw [sOk_f a b l k hk hl, sOk_f a' b' l' k hk hl', l10Copy_f a b l hl]
  simp only [Option.bind_some]
  by_cases c1 : ok = true
  · rw [if_pos c1]
    by_cases c2 : okF a b l = true
    · rw [if_pos c2]
      by_cases c3 : okF a' b' l' = true
      · rw [if_pos c3, if_pos ⟨c1, c2, c3⟩]
      · rw [if_neg c3, if_neg (fun h => c3 h.2.2)]
    · rw [if_neg c2, if_neg (fun h => c2 h.2.1)]
  · rw [if_neg c1, if_neg (fun h => c1 h.1)]
theorem okLanes_map (f : S48 → S48) (hf : ∀ x, (f x).f0 = x.f0) : ∀ (l : List S48) (p : Int), okLanes p l = true → okLanes p (l.map f) = l.all (fun x => okLeft (f x).f1)
  | [], _, _ => rfl
  | x :: l, p, h => by
    simp only [okLanes, Bool.and_eq_true, decide_eq_true_eq] at h
    have ih := okLanes_map f hf l x.f0 h.2.2
    simp only [List.map_cons, okLanes, hf, List.all_cons, ih, h.1, decide_true, Bool.true_and]
theorem okLanes_left : ∀ (l : List S48) (p : Int), okLanes p l = true → ∀ x ∈ l, okLeft x.f1 = true
  | [], _, _, x, h => by simp at h
  | y :: l, p, h, x, hx => by
    simp only [okLanes, Bool.and_eq_true, decide_eq_true_eq] at h
    rcases List.mem_cons.1 hx with rfl | hx
    · exact h.2.1
    · exact okLanes_left l y.f0 h.2.2 x hx
theorem okF_parts {a b : Int} {l : List S48} (h : okF a b l = true) : okLanes 0 l = true ∧ okW a = true ∧ okW b = true ∧ l.length ≤ 100 := by
  simp only [okF, Bool.and_eq_true, decide_eq_true_eq] at h
  exact ⟨h.1, h.2.1, h.2.2.1, h.2.2.2⟩
def moved (d : Int) (x : S48) : S48 := ⟨x.f0, x.f1 + d⟩
def newD (a b : Int) (l : List S48) (n : Int) : Int × Int × List S48 × Bool :=
  if okW n = true ∧ okF a b l = true ∧ (l.all fun x => okLeft (moved (n - b) x).f1) = true then (a, n, l.map (moved (n - b)), true) else (a, b, l, false)
theorem newD_len (a b : Int) (l : List S48) (n : Int) : (newD a b l n).2.2.1.length = l.length := by
  unfold newD; split <;> simp
def lanD (id : Int) : Nat → List S48 → Int × Bool
  | n, [] => ((n : Int), false)
  | n, x :: q => if x.f0 < id then lanD id (n + 1) q else ((n : Int), x.f0 == id)
theorem lane_l0 (a b id : Int) (q : List S48) : ∀ (p : List S48) (n k : Nat), p.length = n → q.length < k → (p ++ q).length ≤ 1048577 → impl_Flow_lane.l0 k id (n : Int) a b (p ++ q) = some (lanD id n q) := by
  induction q with
  | nil =>
    intro p n k hp hk hl
    obtain ⟨k, rfl⟩ : ∃ m, k = m + 1 := ⟨k - 1, by omega⟩
    simp only [impl_Flow_lane.l0]
    rw [if_neg (end_at hp)]
    rfl
  | cons x q ih =>
    intro p n k hp hk hl
    obtain ⟨k, rfl⟩ : ∃ m, k = m + 1 := ⟨k - 1, by omega⟩
    simp only [List.length_cons] at hk
    have hl2 := hl
    simp only [List.length_append, List.length_cons] at hl2
    simp only [impl_Flow_lane.l0, lanD]
    rw [if_pos (lt_at hp), if_pos (nn _), rdS_at hp]
    by_cases c : x.f0 < id
    · rw [if_pos c, if_pos c, wi (m := n + 1) (by omega) (by omega)]
      have := ih (p ++ [x]) (n + 1) k (by simp [hp]) (by omega) (by simpa using hl)
      simpa using this
    · rw [if_neg c, if_neg c]
theorem lane_f (a b id : Int) (l : List S48) (k : Nat) (hk : 1048580 < k) (hl : l.length ≤ 1048577) : impl_Flow_lane.f k a b l id = some (lanD id 0 l) := by
  unfold impl_Flow_lane.f
  have := lane_l0 a b id l [] 0 k rfl (by omega) (by simpa using hl)
  simpa using this
theorem lanD_none (id : Int) : ∀ (l : List S48) (n : Nat), (∀ x ∈ l, x.f0 ≠ id) → (lanD id n l).2 = false
  | [], _, _ => rfl
  | x :: l, n, h => by
    simp only [lanD]
    split
    · exact lanD_none id l (n + 1) (fun y hy => h y (by simp [hy]))
    · simpa using h x (by simp)
theorem lanD_at (id : Int) (x : S48) (q : List S48) (hx : x.f0 = id) : ∀ (p : List S48) (n : Nat), (∀ y ∈ p, y.f0 < id) → lanD id n (p ++ x :: q) = (((n + p.length : Nat) : Int), true)
  | [], n, _ => by
    simp only [List.nil_append, lanD]
    rw [if_neg (by omega)]
    simp [hx]
  | y :: p, n, h => by
    simp only [List.cons_append, lanD]
    rw [if_pos (h y (by simp)), lanD_at id x q hx p (n + 1) (fun z hz => h z (by simp [hz]))]
    simp; omega
theorem okLanes_mono (q : List S48) {a b : Int} (h : okLanes a q = true) (hab : b ≤ a) : okLanes b q = true := by
  cases q with
  | nil => rfl
  | cons x q =>
    simp only [okLanes, Bool.and_eq_true, decide_eq_true_eq] at h ⊢
    exact ⟨by omega, h.2⟩
theorem okLanes_all (x : S48) : ∀ (q : List S48) (a : Int), okLanes a q = true → ∀ y ∈ q, a < y.f0
  | [], _, _, y, hy => by simp at hy
  | z :: q, a, h, y, hy => by
    simp only [okLanes, Bool.and_eq_true, decide_eq_true_eq] at h
    rcases List.mem_cons.1 hy with rfl | hy
    · exact h.1
    · have := okLanes_all x q z.f0 h.2.2 y hy
      omega
theorem okLanes_lt (x : S48) (q : List S48) : ∀ (p : List S48) (a : Int), okLanes a (p ++ x :: q) = true → ∀ y ∈ p, y.f0 < x.f0
  | [], _, _, y, hy => by simp at hy
  | z :: p, a, h, y, hy => by
    simp only [List.cons_append, okLanes, Bool.and_eq_true, decide_eq_true_eq] at h
    rcases List.mem_cons.1 hy with rfl | hy
    · exact okLanes_all x (p ++ x :: q) y.f0 h.2.2 x (by simp)
    · exact okLanes_lt x q p z.f0 h.2.2 y hy
theorem okLanes_erase (x : S48) (q : List S48) : ∀ (p : List S48) (a : Int), okLanes a (p ++ x :: q) = true → okLanes a (p ++ q) = true
  | [], a, h => by
    simp only [List.nil_append, okLanes, Bool.and_eq_true, decide_eq_true_eq] at h ⊢
    exact okLanes_mono q h.2.2 (by omega)
  | z :: p, a, h => by
    simp only [List.cons_append, okLanes, Bool.and_eq_true, decide_eq_true_eq] at h ⊢
    exact ⟨h.1, h.2.1, okLanes_erase x q p z.f0 h.2.2⟩
theorem okLanes_put (x y : S48) (q : List S48) (h0 : y.f0 = x.f0) (h1 : okLeft y.f1 = true) : ∀ (p : List S48) (a : Int), okLanes a (p ++ x :: q) = true → okLanes a (p ++ y :: q) = true
  | [], a, h => by
    simp only [List.nil_append, okLanes, Bool.and_eq_true, decide_eq_true_eq, h0] at h ⊢
    exact ⟨h.1, h1, h.2.2⟩
  | z :: p, a, h => by
    simp only [List.cons_append, okLanes, Bool.and_eq_true, decide_eq_true_eq] at h ⊢
    exact ⟨h.1, h.2.1, okLanes_put x y q h0 h1 p z.f0 h.2.2⟩
theorem okF_mk {a b : Int} {l : List S48} (h1 : okLanes 0 l = true) (h2 : okW a = true) (h3 : okW b = true) (h4 : l.length ≤ 100) : okF a b l = true := by simp [okF, h1, h2, h3, h4]
/-- What a call comes to where it is right to go on; else the flow as it was. -/
def onlyF (a b : Int) (l : List S48) (ok : Bool) (r : Int × Int × List S48) : Int × Int × List S48 × Bool := if ok = true ∧ okF a b l = true then (r.1, r.2.1, r.2.2, true) else (a, b, l, false)
theorem endsD_not {a b : Int} {l : List S48} (h : ¬ okF a b l = true) (a' b' : Int) (l' : List S48) (ok : Bool) : endsD a b l a' b' l' ok = (a, b, l, false) := by unfold endsD; rw [if_neg (fun z => h z.2.1)]
theorem endsD_yes {a b : Int} {l : List S48} (h : okF a b l = true) {a' b' : Int} {l' : List S48} (h' : okF a' b' l' = true) : endsD a b l a' b' l' true = (a', b', l', true) := by unfold endsD; rw [if_pos ⟨rfl, h, h'⟩]
theorem endsD_false (a b : Int) (l : List S48) (a' b' : Int) (l' : List S48) : endsD a b l a' b' l' false = (a, b, l, false) := by unfold endsD; rw [if_neg (fun z => by cases z.1)]
def takenL (n : Int) (x : S48) : S48 := ⟨x.f0, x.f1 - n⟩
theorem lanD_split (id : Int) : ∀ (l : List S48) (n : Nat), ∃ p q, l = p ++ q ∧ (∀ y ∈ p, y.f0 < id) ∧ (lanD id n l).1 = ((n + p.length : Nat) : Int) ∧ (∀ x r, q = x :: r → ¬ x.f0 < id ∧ (lanD id n l).2 = (x.f0 == id)) ∧ (q = [] → (lanD id n l).2 = false)
  | [], n => ⟨[], [], rfl, by simp, by simp [lanD], by simp, fun _ => rfl⟩
  | x :: l, n => by
    by_cases c : x.f0 < id
    · obtain ⟨p, q, h1, h2, h3, h4, h5⟩ := lanD_split id l (n + 1)
      have e : lanD id n (x :: l) = lanD id (n + 1) l := by simp only [lanD]; rw [if_pos c]
      refine ⟨x :: p, q, by rw [h1]; rfl, ?_, by rw [e, h3]; simp; omega, by rw [e]; exact h4, by rw [e]; exact h5⟩
      intro y hy
      rcases List.mem_cons.1 hy with rfl | hy
      · exact c
      · exact h2 y hy
    · have e : lanD id n (x :: l) = ((n : Int), x.f0 == id) := by simp only [lanD]; rw [if_neg c]
      refine ⟨[], x :: l, rfl, by simp, by rw [e]; simp, fun y r h => ?_, by simp⟩
      injection h with h1 h2
      subst h1
      exact ⟨c, by rw [e]⟩
theorem okLanes_ins (id b : Int) (hb : okLeft b = true) (q : List S48) (hq : ∀ x r, q = x :: r → id < x.f0) : ∀ (p : List S48) (a : Int), okLanes a (p ++ q) = true → (∀ y ∈ p, y.f0 < id) → a < id → okLanes a (p ++ ⟨id, b⟩ :: q) = true
  | [], a, h, _, ha => by
    simp only [List.nil_append, okLanes, Bool.and_eq_true, decide_eq_true_eq] at h ⊢
    refine ⟨ha, hb, ?_⟩
    cases q with
    | nil => rfl
    | cons x r =>
      simp only [okLanes, Bool.and_eq_true, decide_eq_true_eq] at h ⊢
      exact ⟨hq x r rfl, h.2⟩
  | z :: p, a, h, hp, ha => by
    simp only [List.cons_append, okLanes, Bool.and_eq_true, decide_eq_true_eq] at h ⊢
    exact ⟨h.1, h.2.1, okLanes_ins id b hb q hq p z.f0 h.2.2 (fun y hy => hp y (by simp [hy])) (hp z (by simp))⟩
def putL (id b : Int) (l : List S48) : List S48 := l.take (lanD id 0 l).1.toNat ++ ⟨id, b⟩ :: l.drop (lanD id 0 l).1.toNat
def openD (a b id : Int) (l : List S48) : Int × Int × List S48 × Bool := if atL id 0 l < 0 ∧ okF a b l = true ∧ 1 ≤ id ∧ l.length < 100 then (a, b, putL id b l, true) else (a, b, l, false)
theorem putL_len (id b : Int) (l : List S48) : (putL id b l).length = l.length + 1 := by
  unfold putL
  simp only [List.length_append, List.length_take, List.length_cons, List.length_drop]
  omega
theorem openD_len (a b id : Int) (l : List S48) : (openD a b id l).2.2.1.length ≤ l.length + 1 := by
  unfold openD; split
  · simp only [putL_len]; omega
  · simp
theorem openD_ends (a b id : Int) (l : List S48) : endsD a b l a b (putL id b l) (decide (atL id 0 l < 0)) = openD a b id l := by
  unfold openD
  by_cases h : okF a b l = true
  · obtain ⟨g1, g2, g3, g5⟩ := okF_parts h
    by_cases c : atL id 0 l < 0
    · rw [decide_eq_true c]
      obtain ⟨p, q, h1, h2, h3, h4, h5⟩ := lanD_split id l 0
      have hpe : putL id b l = p ++ ⟨id, b⟩ :: q := by
        unfold putL
        rw [h3]
        simp only [Nat.zero_add, Int.toNat_natCast]
        rw [h1, List.take_left' rfl, List.drop_left' rfl]
      have hq : ∀ x r, q = x :: r → id < x.f0 := by
        intro x r hx
        have h6 := (h4 x r hx).1
        have h7 : x.f0 ≠ id := by
          rcases atL_spec id l 0 with ⟨_, h8⟩ | ⟨p', x', q', _, _, _, h9⟩
          · exact h8 x (by rw [h1, hx]; simp)
          · omega
        omega
      have g3' := g3
      simp only [okW, decide_eq_true_eq] at g3'
      by_cases ci : 1 ≤ id ∧ l.length < 100
      · rw [if_pos ⟨c, h, ci⟩, hpe]
        rw [h1] at g1
        exact endsD_yes h (okF_mk (okLanes_ins id b (by simp only [okLeft, decide_eq_true_eq]; omega) q hq p 0 g1 h2 (by omega)) g2 g3 (by rw [← hpe, putL_len]; omega))
      · rw [if_neg (fun z => ci z.2.2)]
        unfold endsD
        rw [if_neg]
        intro z
        obtain ⟨k1, _, _, k5⟩ := okF_parts z.2.2
        rw [putL_len] at k5
        rw [hpe] at k1
        have := okLanes_all ⟨id, b⟩ _ 0 k1 ⟨id, b⟩ (by simp)
        simp only at this
        exact ci ⟨by omega, by omega⟩
    · rw [decide_eq_false c, endsD_false, if_neg (fun z => c z.1)]
  · rw [endsD_not h, if_neg (fun z => h z.2.1)]
theorem sOpen_l0 (a b id : Int) (q : List S48) : ∀ (p : List S48) (n k : Nat), p.length = n → q.length + 1048590 < k → (p ++ q).length ≤ 1048576 →
    spec_OpenLane.l0 k id (n : Int) a b (p ++ q) a b (p ++ q) = some (endsD a b (p ++ q) a b ((p ++ q).take (lanD id n q).1.toNat ++ ⟨id, b⟩ :: (p ++ q).drop (lanD id n q).1.toNat) (decide (atL id 0 (p ++ q) < 0))) := by
  induction q with
  | nil =>
    intro p n k hp hk hl
    obtain ⟨k, rfl⟩ : ∃ m, k = m + 1 := ⟨k - 1, by omega⟩
    simp only [List.append_nil] at hl ⊢
    simp only [spec_OpenLane.l0, lanD]
    rw [if_neg (by omega)]
    simp only [Option.bind_some, List.nil_append, Int.toNat_natCast, List.length_nil, Nat.zero_add]
    have ht : (p.take n).length = n := by rw [List.length_take]; omega
    have hd : (p.drop n).length = 0 := by rw [List.length_drop]; omega
    rw [if_pos (nn _), if_pos (by omega), if_pos (by omega), if_pos (by simp only [List.length_cons, List.length_nil]; omega), if_pos (by simp only [List.length_append, List.length_cons, List.length_nil]; omega), sAt_f a b id p k (by omega) (by omega)]
    simp only [Option.bind_some]
    rw [ends_f a b p a b _ _ k (by omega) (by omega) (by simp only [List.length_append, List.length_cons, List.length_nil]; omega)]
    simp [List.append_assoc]
  | cons x q ih =>
    intro p n k hp hk hl
    obtain ⟨k, rfl⟩ : ∃ m, k = m + 1 := ⟨k - 1, by omega⟩
    simp only [List.length_cons] at hk
    have hl2 := hl
    simp only [List.length_append, List.length_cons] at hl2
    simp only [spec_OpenLane.l0, lanD]
    rw [if_pos (lt_at hp), if_pos (nn _), rdS_at hp]
    by_cases c : x.f0 < id
    · rw [if_pos c, if_pos c, wi (m := n + 1) (by omega) (by omega)]
      have := ih (p ++ [x]) (n + 1) k (by simp [hp]) (by omega) (by simpa using hl)
      simpa using this
    · rw [if_neg c, if_neg c]
      simp only [Option.bind_some, List.nil_append, Int.toNat_natCast, List.length_nil, Nat.zero_add]
      have ht : ((p ++ x :: q).take n).length = n := by rw [List.length_take, List.length_append, List.length_cons]; omega
      have hd : ((p ++ x :: q).drop n).length = q.length + 1 := by rw [List.length_drop, List.length_append, List.length_cons]; omega
      rw [if_pos (by rw [List.length_append, List.length_cons]; omega), if_pos (by omega), if_pos (by simp only [List.length_cons, List.length_nil]; omega), if_pos (by simp; omega), sAt_f a b id _ k (by omega) (by omega)]
      simp only [Option.bind_some]
      rw [ends_f a b _ a b _ _ k (by omega) (by omega) (by simp; omega)]
      simp [List.append_assoc]
theorem sOpen_f (a b id : Int) (l : List S48) (k : Nat) (hk : 2097180 < k) (hl : l.length ≤ 1048576) : spec_OpenLane.f k a b l id = some (openD a b id l) := by
  unfold spec_OpenLane.f
  rw [l10Copy_f a b l (by omega)]
  simp only [Option.bind_some]
  have := sOpen_l0 a b id l [] 0 k rfl (by omega) (by simpa using hl)
  simp only [List.nil_append] at this
  rw [show ((0 : Int)) = ((0 : Nat) : Int) from rfl, this]
  exact congrArg some (openD_ends a b id l)
theorem iOpen_f (a b id : Int) (l : List S48) (k : Nat) (hk : 2097180 < k) (hl : l.length ≤ 1048576) : impl_OpenLane.f k a b l id = some (openD a b id l) := by
  unfold impl_OpenLane.f
  rw [lane_f a b id l k (by omega) (by omega), iOk_f a b l k (by omega) (by omega)]
  simp only [Option.bind_some]
  obtain ⟨k, rfl⟩ : ∃ m, k = m + 1 := ⟨k - 1, by omega⟩
  simp only [impl_OpenLane.j0]
  rw [copyF_f a b l (by omega)]
  simp only [Option.bind_some]
  obtain ⟨p, q, h1, h2, h3, h4, h5⟩ := lanD_split id l 0
  have hno : ∀ z : atL id 0 l < 0 ∧ okF a b l = true ∧ 1 ≤ id ∧ l.length < 100, (lanD id 0 l).2 = false := by
    intro z
    rcases atL_spec id l 0 with ⟨_, h8⟩ | ⟨p', x', q', _, _, _, h9⟩
    · exact lanD_none id l 0 h8
    · omega
  unfold openD
  by_cases c1 : (lanD id 0 l).2 = true
  · rw [if_pos c1, if_pos trivial, if_neg (fun z => by rw [hno z] at c1; cases c1)]
  · rw [if_neg c1]
    by_cases c2 : id < 1
    · rw [if_pos c2, if_pos trivial, if_neg (fun z => by omega)]
    · rw [if_neg c2]
      by_cases c3 : (l.length : Int) ≥ 100
      · rw [if_pos c3, if_pos trivial, if_neg (fun z => by omega)]
      · rw [if_neg c3]
        by_cases h : okF a b l = true
        · obtain ⟨g1, _⟩ := okF_parts h
          have hat : atL id 0 l < 0 := by
            rcases atL_spec id l 0 with ⟨h8, _⟩ | ⟨p', x', q', h6, h7, h8, h9⟩
            · omega
            · subst h6
              have := lanD_at id x' q' h7 p' 0 (fun y hy => by rw [← h7]; exact okLanes_lt x' q' p' 0 g1 y hy)
              rw [this] at c1
              exact absurd rfl c1
          rw [h, if_neg (by decide), if_pos ⟨hat, rfl, by omega, by omega⟩]
          have hpq : l.length = p.length + q.length := by rw [h1, List.length_append]
          unfold slices_Insert_Lane.f
          rw [if_pos (show [(⟨id, b⟩ : S48)].length = 1 from rfl), h3, if_pos (nn _), if_pos (by omega), if_pos (by omega)]
          simp only [Option.bind_some]
          unfold putL
          rw [h3]
          rfl
        · simp only [h, Bool.not_false, if_true]
          rw [if_neg (fun z => by cases z.2.1)]
theorem FnExactOpenLane : laws_FnExactOpenLane.Pure := by
  intro a b l id _ _ hl _
  refine ⟨2097200, ?_⟩
  generalize hk : 2097200 = k
  obtain ⟨r, hr, hs⟩ := szF_f a b l 1048576 hl.1 (by omega) (by omega)
  unfold laws_FnExactOpenLane.f
  rw [hr]
  simp only [Option.bind_some]
  by_cases c : r < 0
  · rw [if_pos c]
  rw [if_neg c]
  have := hs (by omega)
  have hm : (l.map toL).length ≤ 1048576 := by simp; omega
  have hT := toF_f a b l k (by omega) (by omega)
  generalize l.map toL = m at hm hT
  have hlen := openD_len a b id m
  have h1 := sOpen_f a b id m k (by omega) (by omega)
  have h2 := iOpen_f a b id m k (by omega) (by omega)
  generalize openD a b id m = P at hlen h1 h2
  obtain ⟨a', b', l', ok⟩ := P
  simp only at hlen
  simp only [hT, h1, h2, Option.bind_some, eqF_f a b m k (by omega) (by omega), eqF_f a' b' l' k (by omega) (by omega), mkF_f a b m k (by omega) (by omega), mkF_f a' b' l' k (by omega) (by omega), hdF_f a' b' l'.length k (by omega) (by omega), if_true, bne_self_eq_false, Bool.false_eq_true, if_false]
  simp only [show ((1 : Int) + 2 * (m.length : Int) < 0) = False by simp; omega, show ((1 : Int) + 2 * (l'.length : Int) < 0) = False by simp; omega, if_false]
end Go.Proofs.Ytejnagdmfooemaa.Pure
