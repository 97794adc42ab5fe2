/- The law FnExactFallDisk answers true at every disk and list of what is kept: the program's FallDisk is the reference's, in new memory, and again the same. For every input; no condition. -/
import Derived.Test.YtnfpcciafbdoiaaSFnExactFallDisk
namespace Go.Proofs.Ytnfpcciafbdoiaa.Pure
open Go.RowKit Go.Proofs.Ytnfpcciafbdoiaa.QFnExactFallDisk Go.Proofs.YtnfpcciafbdoiaaW.PrintWords Go.Proofs.YtnfpcciafbdoiaaW.PrintLast Go.Proofs.YtnfpcciafbdoiaaW.PrintOpen
set_option linter.unusedVariables false
set_option linter.unusedSimpArgs false
theorem w64 {x : Int} (h0 : -9223372036854775808 ≤ x) (h1 : x ≤ 9223372036854775807) : wrap64 x = x := by unfold wrap64; omega
theorem wi {n m : Nat} (h : n < m) (hm : m ≤ 9223372036854775807) : wrap64 ((n : Int) + 1) = ((n + 1 : Nat) : Int) := by unfold wrap64; omega
theorem rdOf_mid {α : Type} (d : α) (p : List α) (s : α) (q : List α) : rdOf d (p ++ s :: q) (p.length : Int) = s := by simp [rdOf]
theorem set_mid {α : Type} (p : List α) (s v : α) (q : List α) : (p ++ s :: q).set ((p.length : Int)).toNat v = p ++ v :: q := by simp
theorem len_mid {α : Type} (p : List α) (s : α) (q : List α) : (p.length : Int) < ((p ++ s :: q).length : Int) := by simp; omega
theorem len_end {α : Type} (p : List α) : ¬ (p.length : Int) < ((p ++ []).length : Int) := by simp
theorem nn (n : Nat) : 0 ≤ (n : Int) := by omega
theorem rdOf_at {α : Type} (d : α) {p : List α} {s : α} {q : List α} {n : Nat} (h : p.length = n) : rdOf d (p ++ s :: q) (n : Int) = s := by subst h; exact rdOf_mid d p s q
theorem set_at {α : Type} {p : List α} {s v : α} {q : List α} {n : Nat} (h : p.length = n) : (p ++ s :: q).set ((n : Int)).toNat v = p ++ v :: q := by subst h; exact set_mid p s v q
theorem lt_at {α : Type} {p : List α} {s : α} {q : List α} {n : Nat} (h : p.length = n) : (n : Int) < ((p ++ s :: q).length : Int) := by subst h; exact len_mid p s q
theorem end_at {α : Type} {p : List α} {n : Nat} (h : p.length = n) : ¬ (n : Int) < ((p ++ []).length : Int) := by subst h; exact len_end p
theorem len_same {α : Type} {p p' q q' : List α} (h : p.length = p'.length) (h2 : q.length = q'.length) : (p ++ q).length = (p' ++ q').length := by simp [h, h2]
theorem rd_mid (p : List Int) (s : Int) (q : List Int) : rd (p ++ s :: q) (p.length : Int) = s := by simp [rd]
theorem rd_at {p : List Int} {s : Int} {q : List Int} {n : Nat} (h : p.length = n) : rd (p ++ s :: q) (n : Int) = s := by subst h; exact rd_mid p s q
def sumSz (l : List ByteArray) : Nat := (l.map ByteArray.size).sum
theorem szS_l0 (q : List ByteArray) : ∀ (p : List ByteArray) (k : Nat) (left : Int), q.length < k → (p ++ q).length ≤ 9223372036854775807 → (∀ s ∈ q, s.size ≤ 9223372036854775807) → 0 ≤ left → left ≤ 1048576 →
    ∃ r, laws_szStringS.l0 k (p ++ q) left (p.length : Int) = some r ∧ r ≤ left ∧ (0 ≤ r → r + sumSz q = left) := by
  induction q with
  | nil =>
    intro p k left hk _ _ h0 h1
    obtain ⟨k, rfl⟩ : ∃ m, k = m + 1 := ⟨k - 1, by simp at hk; omega⟩
    refine ⟨left, ?_, Int.le_refl _, fun _ => by simp [sumSz]⟩
    simp only [laws_szStringS.l0]
    rw [if_neg (len_end p)]
  | cons s q ih =>
    intro p k left hk hl hs h0 h1
    obtain ⟨k, rfl⟩ : ∃ m, k = m + 1 := ⟨k - 1, by simp at hk; omega⟩
    have hs1 := hs s (by simp)
    have hw : wrap64 (left - (s.size : Int)) = left - s.size := w64 (by omega) (by omega)
    simp only [laws_szStringS.l0]
    rw [if_pos (len_mid p s q), if_pos (nn _), rdOf_mid, hw]
    by_cases c : left - (s.size : Int) < 0
    · rw [if_pos c]
      exact ⟨-1, rfl, by omega, fun h => by omega⟩
    · rw [if_neg c, wi (m := (p ++ s :: q).length) (by simp <;> omega) hl]
      obtain ⟨r, hr, hle, hsum⟩ := ih (p ++ [s]) k (left - s.size) (by simp at hk; omega) (by simpa using hl) (fun x hx => hs x (by simp [hx])) (by omega) (by omega)
      refine ⟨r, by simpa using hr, by omega, fun h => ?_⟩
      have := hsum h
      simp only [sumSz, List.map_cons, List.sum_cons] at this ⊢
      omega
theorem szS_f (l : List ByteArray) (k : Nat) (left : Int) (hk : 1048577 < k) (hb : bdList bdStr l) (h0 : 0 ≤ left) (h1 : left ≤ 1048576) :
    ∃ r, laws_szStringS.f k l left = some r ∧ r ≤ left ∧ (0 ≤ r → r + l.length + sumSz l = left) := by
  unfold laws_szStringS.f
  have hl := hb.1
  rw [w64 (by omega) (by omega)]
  by_cases c : left - (l.length : Int) < 0
  · rw [if_pos c]
    exact ⟨-1, rfl, by omega, fun h => by omega⟩
  · rw [if_neg c]
    obtain ⟨r, hr, hle, hsum⟩ := szS_l0 l [] k (left - l.length) (by omega) (by simpa using hl) (fun s hs => hb.2 s hs) (by omega) (by omega)
    refine ⟨r, by simpa using hr, by omega, fun h => ?_⟩
    have := hsum h
    omega
theorem szD_f (a b : List ByteArray) (k : Nat) (left : Int) (hk : 1048577 < k) (ha : bdList bdStr a) (hb : bdList bdStr b) (h0 : 0 ≤ left) (h1 : left ≤ 1048576) :
    ∃ r, laws_szDisk.f k a b left = some r ∧ r ≤ left ∧ (0 ≤ r → r + a.length + sumSz a + b.length + sumSz b = left) := by
  unfold laws_szDisk.f
  obtain ⟨r, hr, hle, hs⟩ := szS_f a k left hk ha h0 h1
  rw [hr]
  simp only [Option.bind_some]
  by_cases c : r < 0
  · rw [if_pos c]
    exact ⟨-1, rfl, by omega, fun h => by omega⟩
  · rw [if_neg c]
    obtain ⟨r2, hr2, hle2, hs2⟩ := szS_f b k r hk hb (by omega) (by omega)
    rw [hr2]
    simp only [Option.bind_some]
    by_cases c2 : r2 < 0
    · rw [if_pos c2]
      exact ⟨-1, rfl, by omega, fun h => by omega⟩
    · rw [if_neg c2]
      refine ⟨r2, rfl, by omega, fun h => ?_⟩
      have := hs (by omega)
      have := hs2 h
      omega
theorem toS_l0 (q : List ByteArray) : ∀ (p z : List ByteArray) (k : Nat), q.length < k → (p ++ q).length ≤ 9223372036854775807 → z.length = q.length → laws_toStringS.l0 k (p ++ q) (p ++ z) (p.length : Int) = some (p ++ q) := by
  induction q with
  | nil =>
    intro p z k hk _ hz
    obtain ⟨k, rfl⟩ : ∃ m, k = m + 1 := ⟨k - 1, by simp at hk; omega⟩
    obtain rfl : z = [] := List.length_eq_zero_iff.mp (by simpa using hz)
    simp only [laws_toStringS.l0]
    rw [if_neg (len_end p)]
  | cons s q ih =>
    intro p z k hk hl hz
    obtain ⟨k, rfl⟩ : ∃ m, k = m + 1 := ⟨k - 1, by simp at hk; omega⟩
    obtain ⟨y, z, rfl⟩ : ∃ y z', z = y :: z' := by cases z with | nil => simp at hz | cons y z => exact ⟨y, z, rfl⟩
    simp only [laws_toStringS.l0]
    rw [if_pos (len_mid p s q), if_pos (nn _), if_pos (len_mid p y z), rdOf_mid, set_mid, wi (m := (p ++ s :: q).length) (by simp <;> omega) hl]
    have := ih (p ++ [s]) z k (by simp at hk; omega) (by simpa using hl) (by simpa using hz)
    simpa using this
theorem toS_f (l : List ByteArray) (k : Nat) (hk : l.length < k) (hl : l.length ≤ 1048576) : laws_toStringS.f k l = some l := by
  unfold laws_toStringS.f
  rw [if_pos (nn _), if_pos (by simp <;> omega)]
  have := toS_l0 l [] (List.replicate l.length (⟨#[]⟩ : ByteArray)) k hk (by simp <;> omega) (by simp)
  simpa using this
theorem toD_f (a b : List ByteArray) (k : Nat) (hk : 1048577 < k) (ha : a.length ≤ 1048576) (hb : b.length ≤ 1048576) : laws_toDisk.f k a b = some (a, b) := by
  unfold laws_toDisk.f
  rw [toS_f a k (by omega) ha, toS_f b k (by omega) hb]; rfl
theorem eqS_l0 (q : List ByteArray) : ∀ (p : List ByteArray) (k : Nat), q.length < k → (p ++ q).length ≤ 9223372036854775807 → laws_eqStringS.l0 k (p ++ q) (p ++ q) (p.length : Int) = some true := by
  induction q with
  | nil =>
    intro p k hk _
    obtain ⟨k, rfl⟩ : ∃ m, k = m + 1 := ⟨k - 1, by simp at hk; omega⟩
    simp only [laws_eqStringS.l0]
    rw [if_neg (len_end p)]
  | cons s q ih =>
    intro p k hk hl
    obtain ⟨k, rfl⟩ : ∃ m, k = m + 1 := ⟨k - 1, by simp at hk; omega⟩
    simp only [laws_eqStringS.l0]
    rw [if_pos (len_mid p s q), if_pos (nn _), if_pos (len_mid p s q), if_pos trivial, wi (m := (p ++ s :: q).length) (by simp <;> omega) hl]
    have := ih (p ++ [s]) k (by simp at hk; omega) (by simpa using hl)
    simpa using this
theorem eqS_f (l : List ByteArray) (k : Nat) (hk : l.length < k) (hl : l.length ≤ 1048576) : laws_eqStringS.f k l l = some true := by
  unfold laws_eqStringS.f
  rw [if_pos rfl]
  simpa using eqS_l0 l [] k hk (by simp <;> omega)
theorem eqD_f (a b : List ByteArray) (k : Nat) (hk : 1048577 < k) (ha : a.length ≤ 1048576) (hb : b.length ≤ 1048576) : laws_eqDisk.f k a b a b = some true := by
  unfold laws_eqDisk.f
  rw [eqS_f a k (by omega) ha, eqS_f b k (by omega) hb]; rfl
theorem mt_l0 (d : Nat) : ∀ (x : Int) (s : ByteArray) (k : Nat), x.toNat ≤ d → d < k → s.size + d ≤ 4611686018427387904 → ∃ t, laws_markText.l0 k x s = some t := by
  induction d with
  | zero =>
    intro x s k hx hk hs
    obtain ⟨k, rfl⟩ : ∃ m, k = m + 1 := ⟨k - 1, by omega⟩
    simp only [laws_markText.l0]
    rw [if_neg (by omega), if_pos (by omega)]
    exact ⟨_, rfl⟩
  | succ d ih =>
    intro x s k hx hk hs
    obtain ⟨k, rfl⟩ : ∃ m, k = m + 1 := ⟨k - 1, by omega⟩
    simp only [laws_markText.l0]
    by_cases c : x > 0
    · rw [if_pos c]
      simp only [Option.bind_some]
      have hsz : ∀ y : Int, (strOfNums [y]).size = 1 := fun y => by simp [strOfNums, ByteArray.size]
      rw [hsz, if_pos (by omega)]
      have hd : Int.tdiv x 10 = x / 10 := Int.tdiv_eq_ediv_of_nonneg (by omega)
      have hx2 : x ≤ 4611686018427387904 := by omega
      rw [hd, w64 (by omega) (by omega)]
      refine ih _ _ k (by omega) (by omega) ?_
      rw [ByteArray.size_append, hsz]
      omega
    · rw [if_neg c, if_pos (by omega)]
      exact ⟨_, rfl⟩
def mt (m : Int) : ByteArray := (laws_markText.f (m.toNat + 1) m).getD ByteArray.empty
theorem mt_f (m : Int) (k : Nat) (hm : m ≤ 4611686018427387904) (hk : m.toNat < k) : laws_markText.f k m = some (mt m) := by
  have h : ∃ t, laws_markText.f (m.toNat + 1) m = some t := by
    unfold laws_markText.f
    by_cases c : m ≤ 0
    · rw [if_pos c]; exact ⟨_, rfl⟩
    · rw [if_neg c]
      exact mt_l0 m.toNat m _ _ (Nat.le_refl _) (by omega) (by simp [ByteArray.size]; omega)
  obtain ⟨t, ht⟩ := h
  have h2 : mt m = t := by unfold mt; rw [ht]; rfl
  rw [h2]
  exact at_rounds (fun k => laws_markText.mono m k) hk ht
def mkS : Int → Nat → List ByteArray
  | _, 0 => []
  | m, n + 1 => mt m :: mkS (m + 1) n
theorem mkS_z (m : Int) : mkS m 0 = [] := rfl
theorem mkS_s (m : Int) (n : Nat) : mkS m (n + 1) = mt m :: mkS (m + 1) n := rfl
theorem mkS_len : ∀ (n : Nat) (m : Int), (mkS m n).length = n
  | 0, _ => rfl
  | n + 1, m => by simp [mkS, mkS_len n]
theorem mkS_l0 (q : List ByteArray) : ∀ (p : List ByteArray) (k : Nat) (m : Int), 0 ≤ m → m.toNat + q.length + q.length < k → m.toNat + q.length ≤ 1099511627776 → (p ++ q).length ≤ 9223372036854775807 → laws_markStringS.l0 k (p ++ q) m (p.length : Int) = some (m + q.length, p ++ mkS m q.length) := by
  induction q with
  | nil =>
    intro p k m h0 hk hm _
    obtain ⟨k, rfl⟩ : ∃ m, k = m + 1 := ⟨k - 1, by omega⟩
    simp only [laws_markStringS.l0]
    rw [if_neg (len_end p)]
    simp [mkS]
  | cons s q ih =>
    intro p k m h0 hk hm hl
    obtain ⟨k, rfl⟩ : ∃ m, k = m + 1 := ⟨k - 1, by omega⟩
    simp only [List.length_cons] at hk hm
    simp only [laws_markStringS.l0]
    rw [if_pos (len_mid p s q), mt_f m k (by omega) (by omega)]
    simp only [Option.bind_some]
    rw [if_pos (nn _), set_mid, w64 (by omega) (by omega), wi (m := (p ++ s :: q).length) (by simp <;> omega) hl]
    have := ih (p ++ [mt m]) k (m + 1) (by omega) (by omega) (by omega) (by simpa using hl)
    simp only [List.length_append, List.length_cons, List.length_nil, List.append_assoc, List.cons_append, List.nil_append] at this
    rw [show ((p.length + 1 : Nat) : Int) = ((p.length + (0 + 1) : Nat) : Int) by omega, this]
    simp only [List.length_cons, mkS]
    congr 2
    omega
theorem mkS_f (l : List ByteArray) (k : Nat) (m : Int) (h0 : 0 ≤ m) (hm : m ≤ 1099511627776 - 1048577) (hk : 2 * 1048577 + m.toNat < k) (hl : l.length ≤ 1048576) : laws_markStringS.f k l m = some (m + l.length, mkS m l.length) := by
  unfold laws_markStringS.f
  simpa using mkS_l0 l [] k m h0 (by omega) (by omega) (by simp <;> omega)
theorem hdS_l0 (n : Nat) : ∀ (p : List ByteArray) (k : Nat) (m : Int), 0 ≤ m → m.toNat + n + n < k → m.toNat + n ≤ 1099511627776 → p.length + n ≤ 9223372036854775807 → laws_heldStringS.l0 k (p ++ mkS m n) m (p.length : Int) = some (m + n) := by
  induction n with
  | zero =>
    intro p k m h0 hk hm _
    obtain ⟨k, rfl⟩ : ∃ m, k = m + 1 := ⟨k - 1, by omega⟩
    rw [mkS_z]
    simp only [laws_heldStringS.l0]
    rw [if_neg (len_end p)]
    simp
  | succ n ih =>
    intro p k m h0 hk hm hl
    obtain ⟨k, rfl⟩ : ∃ m, k = m + 1 := ⟨k - 1, by omega⟩
    rw [mkS_s]
    simp only [laws_heldStringS.l0]
    rw [if_pos (len_mid p _ _), if_pos (nn _), mt_f m k (by omega) (by omega)]
    simp only [Option.bind_some]
    rw [rdOf_mid, if_pos rfl, w64 (by omega) (by omega), wi (m := (p ++ mt m :: mkS (m + 1) n).length) (by simp [mkS_len]) (by simp [mkS_len]; omega)]
    have := ih (p ++ [mt m]) k (m + 1) (by omega) (by omega) (by omega) (by simp <;> omega)
    simp only [List.length_append, List.length_cons, List.length_nil, List.append_assoc, List.cons_append, List.nil_append] at this
    rw [show ((p.length + 1 : Nat) : Int) = ((p.length + (0 + 1) : Nat) : Int) by omega, this]
    congr 1
    omega
theorem hdS_f (n : Nat) (k : Nat) (m : Int) (h0 : 0 ≤ m) (hm : m ≤ 1099511627776 - 1048577) (hk : 2 * 1048577 + m.toNat < k) (hl : n ≤ 1048576) : laws_heldStringS.f k (mkS m n) m = some (m + n) := by
  unfold laws_heldStringS.f
  simpa using hdS_l0 n [] k m h0 (by omega) (by omega) (by simp <;> omega)
theorem mkD_f (a b : List ByteArray) (k : Nat) (hk : 8388608 < k) (ha : a.length ≤ 1048576) (hb : b.length ≤ 1048576) : laws_markDisk.f k a b 1 = some ((1 : Int) + (a.length : Int) + (b.length : Int), mkS 1 a.length, mkS (1 + (a.length : Int)) b.length) := by
  unfold laws_markDisk.f
  rw [mkS_f a k 1 (by omega) (by omega) (by omega) ha]
  simp only [Option.bind_some]
  rw [mkS_f b k (1 + a.length) (by omega) (by omega) (by omega) hb]
  simp
theorem hdD_f (n m : Nat) (k : Nat) (hk : 8388608 < k) (ha : n ≤ 1048576) (hb : m ≤ 1048576) : laws_heldDisk.f k (mkS 1 n) (mkS (1 + (n : Int)) m) 1 = some ((1 : Int) + (n : Int) + (m : Int)) := by
  unfold laws_heldDisk.f
  rw [hdS_f n k 1 (by omega) (by omega) (by omega) ha]
  simp only [Option.bind_some]
  rw [if_neg (by omega), hdS_f m k (1 + n) (by omega) (by omega) (by omega) hb]
  simp only [Option.bind_some]
  rw [if_neg (by omega)]
def okL : List ByteArray → List ByteArray → Bool
  | a :: l, b :: m => decide (a.size ≤ 64) && (decide (b.size ≤ 64) && okL l m)
  | _, _ => true
theorem okL_nil (l : List ByteArray) : okL [] l = true := by cases l <;> rfl
def okD (a b : List ByteArray) : Bool := decide (a.length = b.length) && (decide (a.length ≤ 200) && okL a b)
theorem sOk_l0 (q : List ByteArray) : ∀ (q' p p' : List ByteArray) (n k : Nat), p.length = n → p'.length = n → q.length = q'.length → q.length < k → (p ++ q).length ≤ 200 → spec_DiskOk.l0 k (n : Int) (p ++ q) (p' ++ q') = some (okL q q') := by
  induction q with
  | nil =>
    intro q' p p' n k hp hp' hq hk hl
    obtain ⟨k, rfl⟩ : ∃ m, k = m + 1 := ⟨k - 1, by omega⟩
    simp only [spec_DiskOk.l0]
    rw [if_neg (end_at hp), okL_nil]
  | cons s q ih =>
    intro q' p p' n k hp hp' hq hk hl
    obtain ⟨k, rfl⟩ : ∃ m, k = m + 1 := ⟨k - 1, by omega⟩
    obtain ⟨y, z, rfl⟩ : ∃ y z, q' = y :: z := by cases q' with | nil => simp at hq | cons y z => exact ⟨y, z, rfl⟩
    simp only [List.length_append, List.length_cons] at hq hk hl
    simp only [spec_DiskOk.l0]
    rw [if_pos (lt_at hp), if_pos (nn _), rdOf_at _ hp, rdOf_at _ hp', if_pos (lt_at hp')]
    by_cases c : (s.size : Int) > 64
    · rw [if_pos c]; have h1 : ¬ s.size ≤ 64 := by omega
      simp [okL, h1]
    · rw [if_neg c]
      by_cases c2 : (y.size : Int) > 64
      · rw [if_pos c2]; have h1 : ¬ y.size ≤ 64 := by omega
        simp [okL, h1]
      · rw [if_neg c2, wi (m := n + 1) (by omega) (by omega)]
        have := ih z (p ++ [s]) (p' ++ [y]) (n + 1) k (by simp [hp]) (by simp [hp']) (by omega) (by omega) (by simp; omega)
        simp only [List.append_assoc, List.cons_append, List.nil_append] at this
        rw [this]
        have h1 : s.size ≤ 64 := by omega
        have h2 : y.size ≤ 64 := by omega
        simp [okL, h1, h2]
theorem sOk_f (a b : List ByteArray) (k : Nat) (hk : 300 < k) : spec_DiskOk.f k a b = some (okD a b) := by
  obtain ⟨k, rfl⟩ : ∃ m, k = m + 1 := ⟨k - 1, by omega⟩
  unfold spec_DiskOk.f
  by_cases c : (a.length : Int) = (b.length : Int)
  · rw [if_pos c]
    have c1 : a.length = b.length := by omega
    by_cases c2 : a.length ≤ 200
    · have := sOk_l0 a b [] [] 0 k rfl rfl c1 (by omega) (by simpa using c2)
      simp only [spec_DiskOk.j0]
      rw [if_neg (by simp; omega)]
      have h2 : spec_DiskOk.l0 k 0 a b = some (okL a b) := by simpa using this
      rw [h2]
      simp [okD, c1, c1 ▸ c2]
    · simp only [spec_DiskOk.j0]
      rw [if_pos (by simp; omega)]
      simp [okD, c2]
  · rw [if_neg c]
    simp only [spec_DiskOk.j0]
    have c1 : ¬ a.length = b.length := by omega
    simp [okD, c1]
theorem iOk_l0 (q : List ByteArray) : ∀ (q' p p' : List ByteArray) (n k : Nat), p.length = n → p'.length = n → q.length = q'.length → q.length < k → (p ++ q).length ≤ 200 → impl_DiskOk.l0 k ((p ++ q).length : Int) (n : Int) (p ++ q) (p' ++ q') = some (okL q q') := by
  induction q with
  | nil =>
    intro q' p p' n k hp hp' hq hk hl
    obtain ⟨k, rfl⟩ : ∃ m, k = m + 1 := ⟨k - 1, by omega⟩
    simp only [impl_DiskOk.l0]
    rw [if_neg (end_at hp), okL_nil]
  | cons s q ih =>
    intro q' p p' n k hp hp' hq hk hl
    obtain ⟨k, rfl⟩ : ∃ m, k = m + 1 := ⟨k - 1, by omega⟩
    obtain ⟨y, z, rfl⟩ : ∃ y z, q' = y :: z := by cases q' with | nil => simp at hq | cons y z => exact ⟨y, z, rfl⟩
    have hl2 := hl
    simp only [List.length_append, List.length_cons] at hq hk hl2
    simp only [impl_DiskOk.l0]
    rw [if_pos (lt_at hp), if_pos (nn _), if_pos (lt_at hp), rdOf_at _ hp, rdOf_at _ hp', if_pos (lt_at hp')]
    by_cases c : (s.size : Int) > 64
    · rw [if_pos c]; have h1 : ¬ s.size ≤ 64 := by omega
      simp [okL, h1]
    · rw [if_neg c]
      by_cases c2 : (y.size : Int) > 64
      · rw [if_pos c2]; have h1 : ¬ y.size ≤ 64 := by omega
        simp [okL, h1]
      · rw [if_neg c2, wi (m := n + 1) (by omega) (by omega)]
        have := ih z (p ++ [s]) (p' ++ [y]) (n + 1) k (by simp [hp]) (by simp [hp']) (by omega) (by omega) (by simp; omega)
        simp only [List.append_assoc, List.cons_append, List.nil_append] at this
        rw [this]
        have h1 : s.size ≤ 64 := by omega
        have h2 : y.size ≤ 64 := by omega
        simp [okL, h1, h2]
theorem iOk_f (a b : List ByteArray) (k : Nat) (hk : 300 < k) : impl_DiskOk.f k a b = some (okD a b) := by
  obtain ⟨k, rfl⟩ : ∃ m, k = m + 1 := ⟨k - 1, by omega⟩
  unfold impl_DiskOk.f
  by_cases c : (a.length : Int) = (b.length : Int)
  · rw [if_pos c]
    have c1 : a.length = b.length := by omega
    by_cases c2 : a.length ≤ 200
    · have := iOk_l0 a b [] [] 0 k rfl rfl c1 (by omega) (by simpa using c2)
      simp only [impl_DiskOk.j0]
      rw [if_neg (by simp; omega)]
      have h2 : impl_DiskOk.l0 k (a.length : Int) 0 a b = some (okL a b) := by simpa using this
      rw [h2]
      simp [okD, c1, c1 ▸ c2]
    · simp only [impl_DiskOk.j0]
      rw [if_pos (by simp; omega)]
      simp [okD, c2]
  · rw [if_neg c]
    simp only [impl_DiskOk.j0]
    have c1 : ¬ a.length = b.length := by omega
    simp [okD, c1]
theorem clone_f (l : List ByteArray) (hl : l.length ≤ 8000000000000) : slices_Clone_string_string.f l = some l := by
  unfold slices_Clone_string_string.f
  simp only [Option.bind_some]
  rw [if_pos (by simp; omega)]
  simp
theorem copyD_f (a b : List ByteArray) (ha : a.length ≤ 8000000000000) (hb : b.length ≤ 8000000000000) : impl_copyDisk.f a b = some (a, b) := by
  unfold impl_copyDisk.f
  rw [clone_f a ha, clone_f b hb]; rfl
theorem l12Copy_f (a b : List ByteArray) (ha : a.length ≤ 8000000000000) (hb : b.length ≤ 8000000000000) : spec_l12Copy.f a b = some (a, b) := by
  unfold spec_l12Copy.f
  simp only [Option.bind_some]
  rw [if_pos (by simp; omega), if_pos (by simp; omega)]
  simp
theorem toB_l0 (q : List Bool) : ∀ (p z : List Bool) (k : Nat), q.length < k → (p ++ q).length ≤ 9223372036854775807 → z.length = q.length → laws_toBoolS.l0 k (p ++ q) (p ++ z) (p.length : Int) = some (p ++ q) := by
  induction q with
  | nil =>
    intro p z k hk _ hz
    obtain ⟨k, rfl⟩ : ∃ m, k = m + 1 := ⟨k - 1, by simp at hk; omega⟩
    obtain rfl : z = [] := List.length_eq_zero_iff.mp (by simpa using hz)
    simp only [laws_toBoolS.l0]
    rw [if_neg (len_end p)]
  | cons s q ih =>
    intro p z k hk hl hz
    obtain ⟨k, rfl⟩ : ∃ m, k = m + 1 := ⟨k - 1, by simp at hk; omega⟩
    obtain ⟨y, z, rfl⟩ : ∃ y z', z = y :: z' := by cases z with | nil => simp at hz | cons y z => exact ⟨y, z, rfl⟩
    simp only [laws_toBoolS.l0]
    rw [if_pos (len_mid p s q), if_pos (nn _), if_pos (len_mid p y z), rdOf_mid, set_mid, wi (m := (p ++ s :: q).length) (by simp <;> omega) hl]
    have := ih (p ++ [s]) z k (by simp at hk; omega) (by simpa using hl) (by simpa using hz)
    simpa using this
theorem toB_f (l : List Bool) (k : Nat) (hk : l.length < k) (hl : l.length ≤ 1048576) : laws_toBoolS.f k l = some l := by
  unfold laws_toBoolS.f
  rw [if_pos (nn _), if_pos (by simp <;> omega)]
  have := toB_l0 l [] (List.replicate l.length false) k hk (by simp <;> omega) (by simp)
  simpa using this
theorem eqB_l0 (q : List Bool) : ∀ (p : List Bool) (k : Nat), q.length < k → (p ++ q).length ≤ 9223372036854775807 → laws_eqBoolS.l0 k (p ++ q) (p ++ q) (p.length : Int) = some true := by
  induction q with
  | nil =>
    intro p k hk _
    obtain ⟨k, rfl⟩ : ∃ m, k = m + 1 := ⟨k - 1, by simp at hk; omega⟩
    simp only [laws_eqBoolS.l0]
    rw [if_neg (len_end p)]
  | cons s q ih =>
    intro p k hk hl
    obtain ⟨k, rfl⟩ : ∃ m, k = m + 1 := ⟨k - 1, by simp at hk; omega⟩
    simp only [laws_eqBoolS.l0, bne_self_eq_false, Bool.false_eq_true, if_false]
    rw [if_pos (len_mid p s q), if_pos (nn _), if_pos (len_mid p s q), wi (m := (p ++ s :: q).length) (by simp <;> omega) hl]
    have := ih (p ++ [s]) k (by simp at hk; omega) (by simpa using hl)
    simpa using this
theorem eqB_f (l : List Bool) (k : Nat) (hk : l.length < k) (hl : l.length ≤ 1048576) : laws_eqBoolS.f k l l = some true := by
  unfold laws_eqBoolS.f
  rw [if_pos rfl]
  simpa using eqB_l0 l [] k hk (by simp <;> omega)
theorem mkB_l0 (q : List Bool) : ∀ (p : List Bool) (k : Nat) (m : Int), 0 ≤ m → q.length < k → m.toNat + q.length ≤ 1099511627776 → (p ++ q).length ≤ 9223372036854775807 → ∃ z, laws_markBoolS.l0 k (p ++ q) m (p.length : Int) = some (m + (q.length : Int), z) := by
  induction q with
  | nil =>
    intro p k m h0 hk hm _
    obtain ⟨k, rfl⟩ : ∃ m, k = m + 1 := ⟨k - 1, by omega⟩
    simp only [laws_markBoolS.l0]
    rw [if_neg (len_end p)]
    exact ⟨p, by simp⟩
  | cons s q ih =>
    intro p k m h0 hk hm hl
    obtain ⟨k, rfl⟩ : ∃ m, k = m + 1 := ⟨k - 1, by omega⟩
    simp only [List.length_cons] at hk hm
    simp only [laws_markBoolS.l0]
    rw [if_pos (len_mid p s q), if_pos (nn _), set_mid, w64 (x := m + 1) (by omega) (by omega), wi (m := (p ++ s :: q).length) (by simp <;> omega) hl]
    obtain ⟨z, hz⟩ := ih (p ++ [(Int.tmod m 3 == 0)]) k (m + 1) (by omega) (by omega) (by omega) (by simpa using hl)
    refine ⟨z, ?_⟩
    simp only [List.length_append, List.length_cons, List.length_nil, List.append_assoc, List.cons_append, List.nil_append] at hz
    rw [show ((p.length + 1 : Nat) : Int) = ((p.length + (0 + 1) : Nat) : Int) by omega, hz]
    simp only [List.length_cons]
    congr 2
    omega
theorem mkB_f (l : List Bool) (k : Nat) (m : Int) (h0 : 0 ≤ m) (hm : m ≤ 1099511627776 - 1048577) (hk : 1048577 < k) (hl : l.length ≤ 1048576) : ∃ z, laws_markBoolS.f k l m = some (m + (l.length : Int), z) := by
  unfold laws_markBoolS.f
  simpa using mkB_l0 l [] k m h0 (by omega) (by omega) (by simp <;> omega)
def fallL (K : List Bool) : Nat → List ByteArray → List ByteArray → List ByteArray
  | n, a :: l, b :: m => (if rdOf false K (n : Int) = true ∧ (n : Int) < (K.length : Int) then a else b) :: fallL K (n + 1) l m
  | _, _, _ => []
theorem fallL_len (K : List Bool) : ∀ (a b : List ByteArray) (n : Nat), a.length = b.length → (fallL K n a b).length = a.length
  | [], _, _, _ => by simp [fallL]
  | x :: a, [], _, h => by simp at h
  | x :: a, y :: b, n, h => by simp [fallL, fallL_len K a b (n + 1) (by simpa using h)]
def fallD (a b : List ByteArray) (K : List Bool) : List ByteArray × List ByteArray := if okD a b = true then (fallL K 0 a b, fallL K 0 a b) else (a, b)
theorem okD_len {a b : List ByteArray} (h : okD a b = true) : a.length = b.length ∧ a.length ≤ 200 := by
  simp [okD] at h; exact ⟨h.1, h.2.1⟩
theorem fallD_len (a b : List ByteArray) (K : List Bool) : (fallD a b K).1.length = a.length ∧ (fallD a b K).2.length = b.length := by
  unfold fallD
  split
  · rename_i h
    have := (okD_len h).1
    simp [fallL_len K a b 0 this, this]
  · simp
theorem rd_set_same {p' : List ByteArray} {n : Nat} (x : ByteArray) (q' : List ByteArray) (y : ByteArray) (h : p'.length = n) : (p' ++ y :: q').set ((n : Int)).toNat x = (p' ++ [x]) ++ q' := by rw [set_at h]; simp
theorem iFall_l0 (K : List Bool) (q : List ByteArray) : ∀ (q' p p' : List ByteArray) (n k : Nat), p.length = n → p'.length = n → q.length = q'.length → q.length < k → n + q.length ≤ 200 → impl_FallDisk.l0 k K ((n + q.length : Nat) : Int) (n : Int) (p ++ q) (p' ++ q') = some (p ++ fallL K n q q', p' ++ fallL K n q q') := by
  induction q with
  | nil =>
    intro q' p p' n k hp hp' hq hk hl
    obtain ⟨k, rfl⟩ : ∃ m, k = m + 1 := ⟨k - 1, by omega⟩
    obtain rfl : q' = [] := List.length_eq_zero_iff.mp (by simpa using hq.symm)
    simp only [impl_FallDisk.l0]
    rw [if_neg (by simp)]
    simp [fallL]
  | cons s q ih =>
    intro q' p p' n k hp hp' hq hk hl
    obtain ⟨k, rfl⟩ : ∃ m, k = m + 1 := ⟨k - 1, by omega⟩
    obtain ⟨y, z, rfl⟩ : ∃ y z, q' = y :: z := by cases q' with | nil => simp at hq | cons y z => exact ⟨y, z, rfl⟩
    simp only [List.length_cons] at hq hk hl
    have hN : ((n + (s :: q).length : Nat) : Int) = (((n + 1) + q.length : Nat) : Int) := by simp; omega
    have a1 : (n : Int) < ((p ++ s :: q).length : Int) := lt_at hp
    have a2 : (n : Int) < ((p' ++ y :: z).length : Int) := lt_at hp'
    have a3 : (0 : Int) ≤ (n : Int) := nn n
    simp only [impl_FallDisk.l0, a1, a2, a3, if_true]
    rw [if_pos (show (n : Int) < ((n + (s :: q).length : Nat) : Int) by simp; omega), rdOf_at _ hp, rdOf_at _ hp', rd_set_same _ _ _ hp, rd_set_same _ _ _ hp', wi (m := n + 1) (by omega) (by omega), hN]
    have ea : p ++ s :: q = (p ++ [s]) ++ q := by simp
    have eb : p' ++ y :: z = (p' ++ [y]) ++ z := by simp
    by_cases c1 : (n : Int) < (K.length : Int)
    · rw [if_pos c1]
      by_cases c2 : rdOf false K (n : Int) = true
      · rw [if_pos c2, ea, ih z (p ++ [s]) (p' ++ [s]) (n + 1) k (by simp [hp]) (by simp [hp']) (by omega) (by omega) (by omega)]
        simp [fallL, c1, c2]
      · rw [if_neg c2, eb, ih z (p ++ [y]) (p' ++ [y]) (n + 1) k (by simp [hp]) (by simp [hp']) (by omega) (by omega) (by omega)]
        simp [fallL, c2]
    · rw [if_neg c1, eb, ih z (p ++ [y]) (p' ++ [y]) (n + 1) k (by simp [hp]) (by simp [hp']) (by omega) (by omega) (by omega)]
      simp [fallL, show ¬ n < K.length by omega]
theorem iFall_f (a b : List ByteArray) (K : List Bool) (k : Nat) (hk : 300 < k) (ha : a.length ≤ 1048576) (hb : b.length ≤ 1048576) : impl_FallDisk.f k a b K = some (fallD a b K) := by
  unfold impl_FallDisk.f fallD
  rw [copyD_f a b (by omega) (by omega), iOk_f a b k hk]
  simp only [Option.bind_some]
  by_cases c : okD a b = true
  · rw [if_pos c, if_pos c]
    obtain ⟨h1, h2⟩ := okD_len c
    simpa using iFall_l0 K a b [] [] 0 k rfl rfl h1 (by omega) (by omega)
  · rw [if_neg c, if_neg c]
theorem sFall_l0 (K : List Bool) (q : List ByteArray) : ∀ (q' p p' : List ByteArray) (n k : Nat), p.length = n → p'.length = n → q.length = q'.length → q.length < k → n + q.length ≤ 200 → spec_FallDisk.l0 k K (n : Int) (p ++ q) (p' ++ q') = some (p ++ fallL K n q q', p' ++ fallL K n q q') := by
  induction q with
  | nil =>
    intro q' p p' n k hp hp' hq hk hl
    obtain ⟨k, rfl⟩ : ∃ m, k = m + 1 := ⟨k - 1, by omega⟩
    obtain rfl : q' = [] := List.length_eq_zero_iff.mp (by simpa using hq.symm)
    simp only [spec_FallDisk.l0]
    rw [if_neg (end_at hp)]
    simp [fallL]
  | cons s q ih =>
    intro q' p p' n k hp hp' hq hk hl
    obtain ⟨k, rfl⟩ : ∃ m, k = m + 1 := ⟨k - 1, by omega⟩
    obtain ⟨y, z, rfl⟩ : ∃ y z, q' = y :: z := by cases q' with | nil => simp at hq | cons y z => exact ⟨y, z, rfl⟩
    simp only [List.length_cons] at hq hk hl
    have a1 : (n : Int) < ((p ++ s :: q).length : Int) := lt_at hp
    have a2 : (n : Int) < ((p' ++ y :: z).length : Int) := lt_at hp'
    have a3 : (0 : Int) ≤ (n : Int) := nn n
    simp only [spec_FallDisk.l0, a1, a2, a3, if_true]
    rw [rdOf_at _ hp, rdOf_at _ hp', rd_set_same _ _ _ hp, rd_set_same _ _ _ hp', wi (m := n + 1) (by omega) (by omega)]
    have ea : p ++ s :: q = (p ++ [s]) ++ q := by simp
    have eb : p' ++ y :: z = (p' ++ [y]) ++ z := by simp
    by_cases c1 : (n : Int) < (K.length : Int)
    · rw [if_pos c1]
      by_cases c2 : rdOf false K (n : Int) = true
      · rw [if_pos c2, ea, ih z (p ++ [s]) (p' ++ [s]) (n + 1) k (by simp [hp]) (by simp [hp']) (by omega) (by omega) (by omega)]
        simp [fallL, c1, c2]
      · rw [if_neg c2, eb, ih z (p ++ [y]) (p' ++ [y]) (n + 1) k (by simp [hp]) (by simp [hp']) (by omega) (by omega) (by omega)]
        simp [fallL, c2]
    · rw [if_neg c1, eb, ih z (p ++ [y]) (p' ++ [y]) (n + 1) k (by simp [hp]) (by simp [hp']) (by omega) (by omega) (by omega)]
      simp [fallL, show ¬ n < K.length by omega]
theorem sFall_f (a b : List ByteArray) (K : List Bool) (k : Nat) (hk : 300 < k) (ha : a.length ≤ 1048576) (hb : b.length ≤ 1048576) : spec_FallDisk.f k a b K = some (fallD a b K) := by
  unfold spec_FallDisk.f fallD
  rw [l12Copy_f a b (by omega) (by omega), sOk_f a b k hk]
  simp only [Option.bind_some]
  by_cases c : okD a b = true
  · rw [if_pos c, if_pos c]
    obtain ⟨h1, h2⟩ := okD_len c
    simpa using sFall_l0 K a b [] [] 0 k rfl rfl h1 (by omega) (by omega)
  · rw [if_neg c, if_neg c]
def putD (a b : List ByteArray) (i : Int) (s : ByteArray) : List ByteArray × List ByteArray × Bool :=
  if okD a b = true ∧ (0 ≤ i ∧ i ≤ (a.length : Int) - 1) ∧ (s.size : Int) ≤ 64 then (a.set i.toNat s, b, true) else (a, b, false)
theorem putD_len (a b : List ByteArray) (i : Int) (s : ByteArray) : (putD a b i s).1.length = a.length ∧ (putD a b i s).2.1.length = b.length := by
  unfold putD
  split <;> simp
theorem FnExactFallDisk : laws_FnExactFallDisk.Pure := by
  intro l0 l1 kp h0 h1 hkp
  refine ⟨8388612, ?_⟩
  generalize hk : 8388612 = k
  obtain ⟨r, hr, _, hs⟩ := szD_f l0 l1 k 1048576 (by omega) h0 h1 (by omega) (by omega)
  unfold laws_FnExactFallDisk.f
  by_cases c0 : (kp.length : Int) > 1048576
  · rw [if_pos c0]
  rw [if_neg c0, hr]
  simp only [Option.bind_some]
  by_cases c : r < 0
  · rw [if_pos c]
  rw [if_neg c]
  have := hs (by omega)
  have hla : l0.length ≤ 1048576 := by omega
  have hlb : l1.length ≤ 1048576 := by omega
  obtain ⟨hp1, hp2⟩ := fallD_len l0 l1 kp
  generalize hP : fallD l0 l1 kp = P at hp1 hp2
  obtain ⟨a, b⟩ := P
  simp only at hp1 hp2
  have hD : ∀ k, 8388608 < k → laws_toDisk.f k l0 l1 = some (l0, l1) := fun k hk => toD_f l0 l1 k (by omega) hla hlb
  have hB : ∀ k, 8388608 < k → laws_toBoolS.f k kp = some kp := fun k hk => toB_f kp k (by omega) (by omega)
  have hEB : ∀ k, 8388608 < k → laws_eqBoolS.f k kp kp = some true := fun k hk => eqB_f kp k (by omega) (by omega)
  have hS : ∀ k, 8388608 < k → spec_FallDisk.f k l0 l1 kp = some (a, b) := fun k hk => by rw [sFall_f l0 l1 kp k (by omega) hla hlb, hP]
  have hI : ∀ k, 8388608 < k → impl_FallDisk.f k l0 l1 kp = some (a, b) := fun k hk => by rw [iFall_f l0 l1 kp k (by omega) hla hlb, hP]
  have hE : ∀ k, 8388608 < k → laws_eqDisk.f k a b a b = some true := fun k hk => eqD_f a b k (by omega) (by omega) (by omega)
  have hE0 : ∀ k, 8388608 < k → laws_eqDisk.f k l0 l1 l0 l1 = some true := fun k hk => eqD_f l0 l1 k (by omega) (by omega) (by omega)
  have hM0 : ∀ k, 8388608 < k → laws_markDisk.f k l0 l1 1 = _ := fun k hk => mkD_f l0 l1 k hk (by omega) (by omega)
  have hM : ∀ k, 8388608 < k → laws_markDisk.f k a b 1 = _ := fun k hk => mkD_f a b k hk (by omega) (by omega)
  have hH : ∀ k, 8388608 < k → laws_heldDisk.f k (mkS 1 a.length) (mkS (1 + (a.length : Int)) b.length) 1 = _ := fun k hk => hdD_f a.length b.length k hk (by omega) (by omega)
  obtain ⟨k, rfl⟩ : ∃ m, k = m + 1 := ⟨k - 1, by omega⟩
  have e1 : 8388608 < k + 1 := by omega
  have e0 : 8388608 < k := by omega
  have hn : ((1 : Int) + (a.length : Int) + (b.length : Int) < 0) = False := by simp; omega
  obtain ⟨z, hz⟩ := mkB_f kp (k + 1) ((1 : Int) + (l0.length : Int) + (l1.length : Int)) (by omega) (by omega) (by omega) (by omega)
  have hn0 : ((1 : Int) + (l0.length : Int) + (l1.length : Int) + (kp.length : Int) < 0) = False := by simp; omega
  simp only [hD _ e1, hB _ e1, hS _ e1, hI _ e1, hE _ e1, hE0 _ e1, hEB _ e1, hM0 _ e1, hM _ e1, hH _ e1, hz, Option.bind_some, if_true, hn0, hn, if_false, Bool.not_true, Bool.false_eq_true]
end Go.Proofs.Ytnfpcciafbdoiaa.Pure
