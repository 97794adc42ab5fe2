/- The law FnExactSectorAt answers true at every disk and place: the program's SectorAt is the reference's. For every input; no condition. -/
import Derived.Test.YtnfpcciafbdoiaaSFnExactSectorAt
namespace Go.Proofs.Ytnfpcciafbdoiaa.Pure
open Go.RowKit Go.Proofs.Ytnfpcciafbdoiaa.QFnExactSectorAt Go.Proofs.YtnfpcciafbdoiaaW.PrintWords Go.Proofs.YtnfpcciafbdoiaaW.PrintLast Go.Proofs.YtnfpcciafbdoiaaW.PrintOpen
set_option linter.unusedVariables false
set_option linter.unusedSimpArgs false
theorem w64 {x : Int} (h0 : -9223372036854775808 ≤ x) (h1 : x ≤ 9223372036854775807) : wrap64 x = x := by unfold wrap64; omega
theorem wi {n m : Nat} (h : n < m) (hm : m ≤ 9223372036854775807) : wrap64 ((n : Int) + 1) = ((n + 1 : Nat) : Int) := by unfold wrap64; omega
theorem rdOf_mid {α : Type} (d : α) (p : List α) (s : α) (q : List α) : rdOf d (p ++ s :: q) (p.length : Int) = s := by simp [rdOf]
theorem set_mid {α : Type} (p : List α) (s v : α) (q : List α) : (p ++ s :: q).set ((p.length : Int)).toNat v = p ++ v :: q := by simp
theorem len_mid {α : Type} (p : List α) (s : α) (q : List α) : (p.length : Int) < ((p ++ s :: q).length : Int) := by simp; omega
theorem len_end {α : Type} (p : List α) : ¬ (p.length : Int) < ((p ++ []).length : Int) := by simp
theorem nn (n : Nat) : 0 ≤ (n : Int) := by omega
def sumSz (l : List ByteArray) : Nat := (l.map ByteArray.size).sum
theorem szS_l0 (q : List ByteArray) : ∀ (p : List ByteArray) (k : Nat) (left : Int), q.length < k → (p ++ q).length ≤ 9223372036854775807 → (∀ s ∈ q, s.size ≤ 9223372036854775807) → 0 ≤ left → left ≤ 1048576 →
    ∃ r, laws_szStringS.l0 k (p ++ q) left (p.length : Int) = some r ∧ r ≤ left ∧ (0 ≤ r → r + sumSz q = left) := by
  induction q with
  | nil =>
    intro p k left hk _ _ h0 h1
    obtain ⟨k, rfl⟩ : ∃ m, k = m + 1 := ⟨k - 1, by simp at hk; omega⟩
    refine ⟨left, ?_, Int.le_refl _, fun _ => by simp [sumSz]⟩
    simp only [laws_szStringS.l0]
    rw [if_neg (len_end p)]
  | cons s q ih =>
    intro p k left hk hl hs h0 h1
    obtain ⟨k, rfl⟩ : ∃ m, k = m + 1 := ⟨k - 1, by simp at hk; omega⟩
    have hs1 := hs s (by simp)
    have hw : wrap64 (left - (s.size : Int)) = left - s.size := w64 (by omega) (by omega)
    simp only [laws_szStringS.l0]
    rw [if_pos (len_mid p s q), if_pos (nn _), rdOf_mid, hw]
    by_cases c : left - (s.size : Int) < 0
    · rw [if_pos c]
      exact ⟨-1, rfl, by omega, fun h => by omega⟩
    · rw [if_neg c, wi (m := (p ++ s :: q).length) (by simp <;> omega) hl]
      obtain ⟨r, hr, hle, hsum⟩ := ih (p ++ [s]) k (left - s.size) (by simp at hk; omega) (by simpa using hl) (fun x hx => hs x (by simp [hx])) (by omega) (by omega)
      refine ⟨r, by simpa using hr, by omega, fun h => ?_⟩
      have := hsum h
      simp only [sumSz, List.map_cons, List.sum_cons] at this ⊢
      omega
theorem szS_f (l : List ByteArray) (k : Nat) (left : Int) (hk : 1048577 < k) (hb : bdList bdStr l) (h0 : 0 ≤ left) (h1 : left ≤ 1048576) :
    ∃ r, laws_szStringS.f k l left = some r ∧ r ≤ left ∧ (0 ≤ r → r + l.length + sumSz l = left) := by
  unfold laws_szStringS.f
  have hl := hb.1
  rw [w64 (by omega) (by omega)]
  by_cases c : left - (l.length : Int) < 0
  · rw [if_pos c]
    exact ⟨-1, rfl, by omega, fun h => by omega⟩
  · rw [if_neg c]
    obtain ⟨r, hr, hle, hsum⟩ := szS_l0 l [] k (left - l.length) (by omega) (by simpa using hl) (fun s hs => hb.2 s hs) (by omega) (by omega)
    refine ⟨r, by simpa using hr, by omega, fun h => ?_⟩
    have := hsum h
    omega
theorem szD_f (a b : List ByteArray) (k : Nat) (left : Int) (hk : 1048577 < k) (ha : bdList bdStr a) (hb : bdList bdStr b) (h0 : 0 ≤ left) (h1 : left ≤ 1048576) :
    ∃ r, laws_szDisk.f k a b left = some r ∧ r ≤ left ∧ (0 ≤ r → r + a.length + sumSz a + b.length + sumSz b = left) := by
  unfold laws_szDisk.f
  obtain ⟨r, hr, hle, hs⟩ := szS_f a k left hk ha h0 h1
  rw [hr]
  simp only [Option.bind_some]
  by_cases c : r < 0
  · rw [if_pos c]
    exact ⟨-1, rfl, by omega, fun h => by omega⟩
  · rw [if_neg c]
    obtain ⟨r2, hr2, hle2, hs2⟩ := szS_f b k r hk hb (by omega) (by omega)
    rw [hr2]
    simp only [Option.bind_some]
    by_cases c2 : r2 < 0
    · rw [if_pos c2]
      exact ⟨-1, rfl, by omega, fun h => by omega⟩
    · rw [if_neg c2]
      refine ⟨r2, rfl, by omega, fun h => ?_⟩
      have := hs (by omega)
      have := hs2 h
      omega
theorem toS_l0 (q : List ByteArray) : ∀ (p z : List ByteArray) (k : Nat), q.length < k → (p ++ q).length ≤ 9223372036854775807 → z.length = q.length → laws_toStringS.l0 k (p ++ q) (p ++ z) (p.length : Int) = some (p ++ q) := by
  induction q with
  | nil =>
    intro p z k hk _ hz
    obtain ⟨k, rfl⟩ : ∃ m, k = m + 1 := ⟨k - 1, by simp at hk; omega⟩
    obtain rfl : z = [] := List.length_eq_zero_iff.mp (by simpa using hz)
    simp only [laws_toStringS.l0]
    rw [if_neg (len_end p)]
  | cons s q ih =>
    intro p z k hk hl hz
    obtain ⟨k, rfl⟩ : ∃ m, k = m + 1 := ⟨k - 1, by simp at hk; omega⟩
    obtain ⟨y, z, rfl⟩ : ∃ y z', z = y :: z' := by cases z with | nil => simp at hz | cons y z => exact ⟨y, z, rfl⟩
    simp only [laws_toStringS.l0]
    rw [if_pos (len_mid p s q), if_pos (nn _), if_pos (len_mid p y z), rdOf_mid, set_mid, wi (m := (p ++ s :: q).length) (by simp <;> omega) hl]
    have := ih (p ++ [s]) z k (by simp at hk; omega) (by simpa using hl) (by simpa using hz)
    simpa using this
theorem toS_f (l : List ByteArray) (k : Nat) (hk : l.length < k) (hl : l.length ≤ 1048576) : laws_toStringS.f k l = some l := by
  unfold laws_toStringS.f
  rw [if_pos (nn _), if_pos (by simp <;> omega)]
  have := toS_l0 l [] (List.replicate l.length (⟨#[]⟩ : ByteArray)) k hk (by simp <;> omega) (by simp)
  simpa using this
theorem toD_f (a b : List ByteArray) (k : Nat) (hk : 1048577 < k) (ha : a.length ≤ 1048576) (hb : b.length ≤ 1048576) : laws_toDisk.f k a b = some (a, b) := by
  unfold laws_toDisk.f
  rw [toS_f a k (by omega) ha, toS_f b k (by omega) hb]; rfl
theorem eqS_l0 (q : List ByteArray) : ∀ (p : List ByteArray) (k : Nat), q.length < k → (p ++ q).length ≤ 9223372036854775807 → laws_eqStringS.l0 k (p ++ q) (p ++ q) (p.length : Int) = some true := by
  induction q with
  | nil =>
    intro p k hk _
    obtain ⟨k, rfl⟩ : ∃ m, k = m + 1 := ⟨k - 1, by simp at hk; omega⟩
    simp only [laws_eqStringS.l0]
    rw [if_neg (len_end p)]
  | cons s q ih =>
    intro p k hk hl
    obtain ⟨k, rfl⟩ : ∃ m, k = m + 1 := ⟨k - 1, by simp at hk; omega⟩
    simp only [laws_eqStringS.l0]
    rw [if_pos (len_mid p s q), if_pos (nn _), if_pos (len_mid p s q), if_pos trivial, wi (m := (p ++ s :: q).length) (by simp <;> omega) hl]
    have := ih (p ++ [s]) k (by simp at hk; omega) (by simpa using hl)
    simpa using this
theorem eqS_f (l : List ByteArray) (k : Nat) (hk : l.length < k) (hl : l.length ≤ 1048576) : laws_eqStringS.f k l l = some true := by
  unfold laws_eqStringS.f
  rw [if_pos rfl]
  simpa using eqS_l0 l [] k hk (by simp <;> omega)
theorem eqD_f (a b : List ByteArray) (k : Nat) (hk : 1048577 < k) (ha : a.length ≤ 1048576) (hb : b.length ≤ 1048576) : laws_eqDisk.f k a b a b = some true := by
  unfold laws_eqDisk.f
  rw [eqS_f a k (by omega) ha, eqS_f b k (by omega) hb]; rfl
theorem rdOf_at {α : Type} (d : α) {p : List α} {s : α} {q : List α} {n : Nat} (h : p.length = n) : rdOf d (p ++ s :: q) (n : Int) = s := by subst h; exact rdOf_mid d p s q
theorem set_at {α : Type} {p : List α} {s v : α} {q : List α} {n : Nat} (h : p.length = n) : (p ++ s :: q).set ((n : Int)).toNat v = p ++ v :: q := by subst h; exact set_mid p s v q
theorem lt_at {α : Type} {p : List α} {s : α} {q : List α} {n : Nat} (h : p.length = n) : (n : Int) < ((p ++ s :: q).length : Int) := by subst h; exact len_mid p s q
theorem end_at {α : Type} {p : List α} {n : Nat} (h : p.length = n) : ¬ (n : Int) < ((p ++ []).length : Int) := by subst h; exact len_end p
theorem len_same {α : Type} {p p' q q' : List α} (h : p.length = p'.length) (h2 : q.length = q'.length) : (p ++ q).length = (p' ++ q').length := by simp [h, h2]
def okL : List ByteArray → List ByteArray → Bool
  | a :: l, b :: m => decide (a.size ≤ 64) && (decide (b.size ≤ 64) && okL l m)
  | _, _ => true
theorem okL_nil (l : List ByteArray) : okL [] l = true := by cases l <;> rfl
def okD (a b : List ByteArray) : Bool := decide (a.length = b.length) && (decide (a.length ≤ 200) && okL a b)
theorem inR_f (a b c : Int) : impl_inRange.f a b c = some (decide (b ≤ a ∧ a ≤ c)) := by
  unfold impl_inRange.f
  by_cases h : a ≥ b
  · rw [if_pos h]; simp [show b ≤ a from h]
  · rw [if_neg h]; simp [show ¬ b ≤ a from h]
theorem l1In_f (a b c : Int) : spec_l1In.f a b c = some (decide (b ≤ a ∧ a ≤ c)) := by
  unfold spec_l1In.f
  by_cases h : a ≥ b
  · rw [if_pos h]; simp [show b ≤ a from h]
  · rw [if_neg h]; simp [show ¬ b ≤ a from h]
def fallL (K : List Bool) : Nat → List ByteArray → List ByteArray → List ByteArray
  | n, a :: l, b :: m => (if rdOf false K (n : Int) = true ∧ (n : Int) < (K.length : Int) then a else b) :: fallL K (n + 1) l m
  | _, _, _ => []
theorem fallL_len (K : List Bool) : ∀ (a b : List ByteArray) (n : Nat), a.length = b.length → (fallL K n a b).length = a.length
  | [], _, _, _ => by simp [fallL]
  | x :: a, [], _, h => by simp at h
  | x :: a, y :: b, n, h => by simp [fallL, fallL_len K a b (n + 1) (by simpa using h)]
def fallD (a b : List ByteArray) (K : List Bool) : List ByteArray × List ByteArray := if okD a b = true then (fallL K 0 a b, fallL K 0 a b) else (a, b)
theorem okD_len {a b : List ByteArray} (h : okD a b = true) : a.length = b.length ∧ a.length ≤ 200 := by
  simp [okD] at h; exact ⟨h.1, h.2.1⟩
theorem fallD_len (a b : List ByteArray) (K : List Bool) : (fallD a b K).1.length = a.length ∧ (fallD a b K).2.length = b.length := by
  unfold fallD
  split
  · rename_i h
    have := (okD_len h).1
    simp [fallL_len K a b 0 this, this]
  · simp
theorem rd_set_same {p' : List ByteArray} {n : Nat} (x : ByteArray) (q' : List ByteArray) (y : ByteArray) (h : p'.length = n) : (p' ++ y :: q').set ((n : Int)).toNat x = (p' ++ [x]) ++ q' := by rw [set_at h]; simp
theorem FnExactSectorAt : laws_FnExactSectorAt.Pure := by
  intro l0 l1 i h0 h1 hi
  refine ⟨8388609, ?_⟩
  generalize hk : 8388609 = k
  obtain ⟨r, hr, _, hs⟩ := szD_f l0 l1 k 1048576 (by omega) h0 h1 (by omega) (by omega)
  unfold laws_FnExactSectorAt.f
  rw [hr]
  simp only [Option.bind_some]
  by_cases c : r < 0
  · rw [if_pos c]
  · rw [if_neg c]
    have := hs (by omega)
    have hD := toD_f l0 l1 k (by omega) (by omega) (by omega)
    have he : impl_SectorAt.f l0 l1 i = spec_SectorAt.f l0 l1 i := rfl
    have hex : ∃ s, spec_SectorAt.f l0 l1 i = some s := by
      unfold spec_SectorAt.f spec_l1In.f
      rw [w64 (by omega) (by omega)]
      by_cases c0 : i ≥ 0
      · rw [if_pos c0]
        simp only [Option.bind_some]
        by_cases c1 : i ≤ (l0.length : Int) - 1
        · rw [if_pos (by simpa using c1), if_pos c0, if_pos (by omega)]; exact ⟨_, rfl⟩
        · rw [if_neg (by simpa using c1)]; exact ⟨_, rfl⟩
      · rw [if_neg c0]
        simp
    obtain ⟨s, hs2⟩ := hex
    simp only [hD, he, hs2, Option.bind_some, if_true, eqD_f l0 l1 k (by omega) (by omega) (by omega)]
end Go.Proofs.Ytnfpcciafbdoiaa.Pure
