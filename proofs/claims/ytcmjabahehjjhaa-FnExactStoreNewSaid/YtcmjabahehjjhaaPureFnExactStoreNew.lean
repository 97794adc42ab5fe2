/- The law FnExactStoreNew answers true at every number: the program's StoreNew is the reference's, in new memory, and again the same. For every input; no condition. -/
import Derived.Test.YtcmjabahehjjhaaSFnExactStoreNew
namespace Go.Proofs.Ytcmjabahehjjhaa.Pure
open Go.RowKit Go.Proofs.Ytcmjabahehjjhaa.QFnExactStoreNew Go.Proofs.YtcmjabahehjjhaaW.PrintWords Go.Proofs.YtcmjabahehjjhaaW.PrintLast Go.Proofs.YtcmjabahehjjhaaW.PrintOpen
set_option linter.unusedVariables false
set_option linter.unusedSimpArgs false
theorem w64 {x : Int} (h0 : -9223372036854775808 ≤ x) (h1 : x ≤ 9223372036854775807) : wrap64 x = x := by unfold wrap64; omega
theorem wi {n m : Nat} (h : n < m) (hm : m ≤ 9223372036854775807) : wrap64 ((n : Int) + 1) = ((n + 1 : Nat) : Int) := by unfold wrap64; omega
theorem rdOf_mid {α : Type} (d : α) (p : List α) (s : α) (q : List α) : rdOf d (p ++ s :: q) (p.length : Int) = s := by simp [rdOf]
theorem set_mid {α : Type} (p : List α) (s v : α) (q : List α) : (p ++ s :: q).set ((p.length : Int)).toNat v = p ++ v :: q := by simp
theorem len_mid {α : Type} (p : List α) (s : α) (q : List α) : (p.length : Int) < ((p ++ s :: q).length : Int) := by simp; omega
theorem len_end {α : Type} (p : List α) : ¬ (p.length : Int) < ((p ++ []).length : Int) := by simp
theorem nn (n : Nat) : 0 ≤ (n : Int) := by omega
theorem rdOf_at {α : Type} (d : α) {p : List α} {s : α} {q : List α} {n : Nat} (h : p.length = n) : rdOf d (p ++ s :: q) (n : Int) = s := by subst h; exact rdOf_mid d p s q
theorem set_at {α : Type} {p : List α} {s v : α} {q : List α} {n : Nat} (h : p.length = n) : (p ++ s :: q).set ((n : Int)).toNat v = p ++ v :: q := by subst h; exact set_mid p s v q
theorem lt_at {α : Type} {p : List α} {s : α} {q : List α} {n : Nat} (h : p.length = n) : (n : Int) < ((p ++ s :: q).length : Int) := by subst h; exact len_mid p s q
theorem end_at {α : Type} {p : List α} {n : Nat} (h : p.length = n) : ¬ (n : Int) < ((p ++ []).length : Int) := by subst h; exact len_end p
theorem len_same {α : Type} {p p' q q' : List α} (h : p.length = p'.length) (h2 : q.length = q'.length) : (p ++ q).length = (p' ++ q').length := by simp [h, h2]
theorem rd_mid (p : List Int) (s : Int) (q : List Int) : rd (p ++ s :: q) (p.length : Int) = s := by simp [rd]
theorem rd_at {p : List Int} {s : Int} {q : List Int} {n : Nat} (h : p.length = n) : rd (p ++ s :: q) (n : Int) = s := by subst h; exact rd_mid p s q
theorem inR_f (a b c : Int) : impl_inRange.f a b c = some (decide (b ≤ a ∧ a ≤ c)) := by
  unfold impl_inRange.f
  by_cases h : a ≥ b
  · rw [if_pos h]; simp [show b ≤ a from h]
  · rw [if_neg h]; simp [show ¬ b ≤ a from h]
theorem eqB_l0 (q : List Int) : ∀ (p : List Int) (k : Nat), q.length < k → (p ++ q).length ≤ 9223372036854775807 → laws_eqByteS.l0 k (p ++ q) (p ++ q) (p.length : Int) = some true := by
  induction q with
  | nil =>
    intro p k hk _
    obtain ⟨k, rfl⟩ : ∃ m, k = m + 1 := ⟨k - 1, by simp at hk; omega⟩
    simp only [laws_eqByteS.l0]
    rw [if_neg (len_end p)]
  | cons s q ih =>
    intro p k hk hl
    obtain ⟨k, rfl⟩ : ∃ m, k = m + 1 := ⟨k - 1, by simp at hk; omega⟩
    simp only [laws_eqByteS.l0]
    rw [if_pos (len_mid p s q), if_pos (nn _), if_pos (len_mid p s q), if_pos trivial, wi (m := (p ++ s :: q).length) (by simp <;> omega) hl]
    have := ih (p ++ [s]) k (by simp at hk; omega) (by simpa using hl)
    simpa using this
theorem eqB_f (l : List Int) (k : Nat) (hk : l.length < k) (hl : l.length ≤ 1048576) : laws_eqByteS.f k l l = some true := by
  unfold laws_eqByteS.f
  rw [if_pos rfl]
  simpa using eqB_l0 l [] k hk (by simp <;> omega)
def sumSz (l : List ByteArray) : Nat := (l.map ByteArray.size).sum
theorem eqS_l0 (q : List ByteArray) : ∀ (p : List ByteArray) (k : Nat), q.length < k → (p ++ q).length ≤ 9223372036854775807 → laws_eqStringS.l0 k (p ++ q) (p ++ q) (p.length : Int) = some true := by
  induction q with
  | nil =>
    intro p k hk _
    obtain ⟨k, rfl⟩ : ∃ m, k = m + 1 := ⟨k - 1, by simp at hk; omega⟩
    simp only [laws_eqStringS.l0]
    rw [if_neg (len_end p)]
  | cons s q ih =>
    intro p k hk hl
    obtain ⟨k, rfl⟩ : ∃ m, k = m + 1 := ⟨k - 1, by simp at hk; omega⟩
    simp only [laws_eqStringS.l0]
    rw [if_pos (len_mid p s q), if_pos (nn _), if_pos (len_mid p s q), if_pos trivial, wi (m := (p ++ s :: q).length) (by simp <;> omega) hl]
    have := ih (p ++ [s]) k (by simp at hk; omega) (by simpa using hl)
    simpa using this
theorem eqS_f (l : List ByteArray) (k : Nat) (hk : l.length < k) (hl : l.length ≤ 1048576) : laws_eqStringS.f k l l = some true := by
  unfold laws_eqStringS.f
  rw [if_pos rfl]
  simpa using eqS_l0 l [] k hk (by simp <;> omega)
theorem eqD_f (a b : List ByteArray) (k : Nat) (hk : 1048577 < k) (ha : a.length ≤ 1048576) (hb : b.length ≤ 1048576) : laws_eqDisk.f k a b a b = some true := by
  unfold laws_eqDisk.f
  rw [eqS_f a k (by omega) ha, eqS_f b k (by omega) hb]; rfl
theorem mt_l0 (d : Nat) : ∀ (x : Int) (s : ByteArray) (k : Nat), x.toNat ≤ d → d < k → s.size + d ≤ 4611686018427387904 → ∃ t, laws_markText.l0 k x s = some t := by
  induction d with
  | zero =>
    intro x s k hx hk hs
    obtain ⟨k, rfl⟩ : ∃ m, k = m + 1 := ⟨k - 1, by omega⟩
    simp only [laws_markText.l0]
    rw [if_neg (by omega), if_pos (by omega)]
    exact ⟨_, rfl⟩
  | succ d ih =>
    intro x s k hx hk hs
    obtain ⟨k, rfl⟩ : ∃ m, k = m + 1 := ⟨k - 1, by omega⟩
    simp only [laws_markText.l0]
    by_cases c : x > 0
    · rw [if_pos c]
      simp only [Option.bind_some]
      have hsz : ∀ y : Int, (strOfNums [y]).size = 1 := fun y => by simp [strOfNums, ByteArray.size]
      rw [hsz, if_pos (by omega)]
      have hd : Int.tdiv x 10 = x / 10 := Int.tdiv_eq_ediv_of_nonneg (by omega)
      have hx2 : x ≤ 4611686018427387904 := by omega
      rw [hd, w64 (by omega) (by omega)]
      refine ih _ _ k (by omega) (by omega) ?_
      rw [ByteArray.size_append, hsz]
      omega
    · rw [if_neg c, if_pos (by omega)]
      exact ⟨_, rfl⟩
def mt (m : Int) : ByteArray := (laws_markText.f (m.toNat + 1) m).getD ByteArray.empty
theorem mt_f (m : Int) (k : Nat) (hm : m ≤ 4611686018427387904) (hk : m.toNat < k) : laws_markText.f k m = some (mt m) := by
  have h : ∃ t, laws_markText.f (m.toNat + 1) m = some t := by
    unfold laws_markText.f
    by_cases c : m ≤ 0
    · rw [if_pos c]; exact ⟨_, rfl⟩
    · rw [if_neg c]
      exact mt_l0 m.toNat m _ _ (Nat.le_refl _) (by omega) (by simp [ByteArray.size]; omega)
  obtain ⟨t, ht⟩ := h
  have h2 : mt m = t := by unfold mt; rw [ht]; rfl
  rw [h2]
  exact at_rounds (fun k => laws_markText.mono m k) hk ht
def mkS : Int → Nat → List ByteArray
  | _, 0 => []
  | m, n + 1 => mt m :: mkS (m + 1) n
theorem mkS_z (m : Int) : mkS m 0 = [] := rfl
theorem mkS_s (m : Int) (n : Nat) : mkS m (n + 1) = mt m :: mkS (m + 1) n := rfl
theorem mkS_len : ∀ (n : Nat) (m : Int), (mkS m n).length = n
  | 0, _ => rfl
  | n + 1, m => by simp [mkS, mkS_len n]
theorem mkS_l0 (q : List ByteArray) : ∀ (p : List ByteArray) (k : Nat) (m : Int), 0 ≤ m → m.toNat + q.length + q.length < k → m.toNat + q.length ≤ 1099511627776 → (p ++ q).length ≤ 9223372036854775807 → laws_markStringS.l0 k (p ++ q) m (p.length : Int) = some (m + q.length, p ++ mkS m q.length) := by
  induction q with
  | nil =>
    intro p k m h0 hk hm _
    obtain ⟨k, rfl⟩ : ∃ m, k = m + 1 := ⟨k - 1, by omega⟩
    simp only [laws_markStringS.l0]
    rw [if_neg (len_end p)]
    simp [mkS]
  | cons s q ih =>
    intro p k m h0 hk hm hl
    obtain ⟨k, rfl⟩ : ∃ m, k = m + 1 := ⟨k - 1, by omega⟩
    simp only [List.length_cons] at hk hm
    simp only [laws_markStringS.l0]
    rw [if_pos (len_mid p s q), mt_f m k (by omega) (by omega)]
    simp only [Option.bind_some]
    rw [if_pos (nn _), set_mid, w64 (by omega) (by omega), wi (m := (p ++ s :: q).length) (by simp <;> omega) hl]
    have := ih (p ++ [mt m]) k (m + 1) (by omega) (by omega) (by omega) (by simpa using hl)
    simp only [List.length_append, List.length_cons, List.length_nil, List.append_assoc, List.cons_append, List.nil_append] at this
    rw [show ((p.length + 1 : Nat) : Int) = ((p.length + (0 + 1) : Nat) : Int) by omega, this]
    simp only [List.length_cons, mkS]
    congr 2
    omega
theorem mkS_f (l : List ByteArray) (k : Nat) (m : Int) (h0 : 0 ≤ m) (hm : m ≤ 1099511627776 - 1048577) (hk : 2 * 1048577 + m.toNat < k) (hl : l.length ≤ 1048576) : laws_markStringS.f k l m = some (m + l.length, mkS m l.length) := by
  unfold laws_markStringS.f
  simpa using mkS_l0 l [] k m h0 (by omega) (by omega) (by simp <;> omega)
theorem hdS_l0 (n : Nat) : ∀ (p : List ByteArray) (k : Nat) (m : Int), 0 ≤ m → m.toNat + n + n < k → m.toNat + n ≤ 1099511627776 → p.length + n ≤ 9223372036854775807 → laws_heldStringS.l0 k (p ++ mkS m n) m (p.length : Int) = some (m + n) := by
  induction n with
  | zero =>
    intro p k m h0 hk hm _
    obtain ⟨k, rfl⟩ : ∃ m, k = m + 1 := ⟨k - 1, by omega⟩
    rw [mkS_z]
    simp only [laws_heldStringS.l0]
    rw [if_neg (len_end p)]
    simp
  | succ n ih =>
    intro p k m h0 hk hm hl
    obtain ⟨k, rfl⟩ : ∃ m, k = m + 1 := ⟨k - 1, by omega⟩
    rw [mkS_s]
    simp only [laws_heldStringS.l0]
    rw [if_pos (len_mid p _ _), if_pos (nn _), mt_f m k (by omega) (by omega)]
    simp only [Option.bind_some]
    rw [rdOf_mid, if_pos rfl, w64 (by omega) (by omega), wi (m := (p ++ mt m :: mkS (m + 1) n).length) (by simp [mkS_len]) (by simp [mkS_len]; omega)]
    have := ih (p ++ [mt m]) k (m + 1) (by omega) (by omega) (by omega) (by simp <;> omega)
    simp only [List.length_append, List.length_cons, List.length_nil, List.append_assoc, List.cons_append, List.nil_append] at this
    rw [show ((p.length + 1 : Nat) : Int) = ((p.length + (0 + 1) : Nat) : Int) by omega, this]
    congr 1
    omega
theorem hdS_f (n : Nat) (k : Nat) (m : Int) (h0 : 0 ≤ m) (hm : m ≤ 1099511627776 - 1048577) (hk : 2 * 1048577 + m.toNat < k) (hl : n ≤ 1048576) : laws_heldStringS.f k (mkS m n) m = some (m + n) := by
  unfold laws_heldStringS.f
  simpa using hdS_l0 n [] k m h0 (by omega) (by omega) (by simp <;> omega)
theorem mkD_f (a b : List ByteArray) (k : Nat) (hk : 8388608 < k) (ha : a.length ≤ 1048576) (hb : b.length ≤ 1048576) : laws_markDisk.f k a b 1 = some ((1 : Int) + (a.length : Int) + (b.length : Int), mkS 1 a.length, mkS (1 + (a.length : Int)) b.length) := by
  unfold laws_markDisk.f
  rw [mkS_f a k 1 (by omega) (by omega) (by omega) ha]
  simp only [Option.bind_some]
  rw [mkS_f b k (1 + a.length) (by omega) (by omega) (by omega) hb]
  simp
theorem hdD_f (n m : Nat) (k : Nat) (hk : 8388608 < k) (ha : n ≤ 1048576) (hb : m ≤ 1048576) : laws_heldDisk.f k (mkS 1 n) (mkS (1 + (n : Int)) m) 1 = some ((1 : Int) + (n : Int) + (m : Int)) := by
  unfold laws_heldDisk.f
  rw [hdS_f n k 1 (by omega) (by omega) (by omega) ha]
  simp only [Option.bind_some]
  rw [if_neg (by omega), hdS_f m k (1 + n) (by omega) (by omega) (by omega) hb]
  simp only [Option.bind_some]
  rw [if_neg (by omega)]
def okL : List ByteArray → List ByteArray → Bool
  | a :: l, b :: m => decide (a.size ≤ 64) && (decide (b.size ≤ 64) && okL l m)
  | _, _ => true
theorem okL_nil (l : List ByteArray) : okL [] l = true := by cases l <;> rfl
def okD (a b : List ByteArray) : Bool := decide (a.length = b.length) && (decide (a.length ≤ 200) && okL a b)
def fallL (K : List Bool) : Nat → List ByteArray → List ByteArray → List ByteArray
  | n, a :: l, b :: m => (if rdOf false K (n : Int) = true ∧ (n : Int) < (K.length : Int) then a else b) :: fallL K (n + 1) l m
  | _, _, _ => []
theorem fallL_len (K : List Bool) : ∀ (a b : List ByteArray) (n : Nat), a.length = b.length → (fallL K n a b).length = a.length
  | [], _, _, _ => by simp [fallL]
  | x :: a, [], _, h => by simp at h
  | x :: a, y :: b, n, h => by simp [fallL, fallL_len K a b (n + 1) (by simpa using h)]
def fallD (a b : List ByteArray) (K : List Bool) : List ByteArray × List ByteArray := if okD a b = true then (fallL K 0 a b, fallL K 0 a b) else (a, b)
theorem okD_len {a b : List ByteArray} (h : okD a b = true) : a.length = b.length ∧ a.length ≤ 200 := by
  simp [okD] at h; exact ⟨h.1, h.2.1⟩
theorem fallD_len (a b : List ByteArray) (K : List Bool) : (fallD a b K).1.length = a.length ∧ (fallD a b K).2.length = b.length := by
  unfold fallD
  split
  · rename_i h
    have := (okD_len h).1
    simp [fallL_len K a b 0 this, this]
  · simp
theorem rd_set_same {p' : List ByteArray} {n : Nat} (x : ByteArray) (q' : List ByteArray) (y : ByteArray) (h : p'.length = n) : (p' ++ y :: q').set ((n : Int)).toNat x = (p' ++ [x]) ++ q' := by rw [set_at h]; simp
def putD (a b : List ByteArray) (i : Int) (s : ByteArray) : List ByteArray × List ByteArray × Bool :=
  if okD a b = true ∧ (0 ≤ i ∧ i ≤ (a.length : Int) - 1) ∧ (s.size : Int) ≤ 64 then (a.set i.toNat s, b, true) else (a, b, false)
theorem putD_len (a b : List ByteArray) (i : Int) (s : ByteArray) : (putD a b i s).1.length = a.length ∧ (putD a b i s).2.1.length = b.length := by
  unfold putD
  split <;> simp
theorem new_l0' (d : Nat) : ∀ (n k : Nat) (m : Int), n + d = m.toNat → m ≤ 200 → d < k → spec_DiskNew.l0 k m (n : Int) (List.replicate n (⟨#[]⟩ : ByteArray)) (List.replicate n (⟨#[]⟩ : ByteArray)) = some (List.replicate (n + d) (⟨#[]⟩ : ByteArray), List.replicate (n + d) (⟨#[]⟩ : ByteArray)) := by
  induction d with
  | zero =>
    intro n k m h hm hk
    obtain ⟨k, rfl⟩ : ∃ m, k = m + 1 := ⟨k - 1, by omega⟩
    simp only [spec_DiskNew.l0]
    rw [if_neg (by omega)]
    rfl
  | succ d ih =>
    intro n k m h hm hk
    obtain ⟨k, rfl⟩ : ∃ m, k = m + 1 := ⟨k - 1, by omega⟩
    simp only [spec_DiskNew.l0]
    rw [if_pos (by omega), if_pos hm, if_pos (by simp; omega), if_pos (by simp; omega), wi (m := n + 1) (by omega) (by omega), ← List.replicate_succ', ih (n + 1) k m (by omega) hm (by omega), show n + 1 + d = n + (d + 1) by omega]
theorem sNew_f (m : Int) (hm : 0 ≤ m ∧ m ≤ 200) (k : Nat) (hk : 1000 < k) : spec_DiskNew.f k m = some (List.replicate m.toNat (⟨#[]⟩ : ByteArray), List.replicate m.toNat (⟨#[]⟩ : ByteArray)) := by
  unfold spec_DiskNew.f
  have := new_l0' m.toNat 0 k m (by omega) hm.2 (by omega)
  simpa using this
theorem new_l0 (d : Nat) : ∀ (n k : Nat) (m : Int), n + d = m.toNat → m ≤ 200 → d < k → spec_DiskNew.l0 k m (n : Int) (List.replicate n (⟨#[]⟩ : ByteArray)) (List.replicate n (⟨#[]⟩ : ByteArray)) = some (List.replicate (n + d) (⟨#[]⟩ : ByteArray), List.replicate (n + d) (⟨#[]⟩ : ByteArray)) := by
  induction d with
  | zero =>
    intro n k m h hm hk
    obtain ⟨k, rfl⟩ : ∃ m, k = m + 1 := ⟨k - 1, by omega⟩
    simp only [spec_DiskNew.l0]
    rw [if_neg (by omega)]
    rfl
  | succ d ih =>
    intro n k m h hm hk
    obtain ⟨k, rfl⟩ : ∃ m, k = m + 1 := ⟨k - 1, by omega⟩
    simp only [spec_DiskNew.l0]
    rw [if_pos (by omega), if_pos hm, if_pos (by simp; omega), if_pos (by simp; omega), wi (m := n + 1) (by omega) (by omega), ← List.replicate_succ', ih (n + 1) k m (by omega) hm (by omega), show n + 1 + d = n + (d + 1) by omega]
theorem new_same (m : Int) (k : Nat) (hk : 1000 < k) : spec_DiskNew.f k m = impl_DiskNew.f m := by
  unfold spec_DiskNew.f impl_DiskNew.f
  rw [inR_f]
  simp only [Option.bind_some]
  by_cases c : 0 ≤ m ∧ m ≤ 200
  · rw [if_pos (by simpa using c), if_pos c.1, if_pos (by omega)]
    have := new_l0 m.toNat 0 k m (by omega) c.2 (by omega)
    simpa using this
  · rw [if_neg (by simpa using c)]
    obtain ⟨k, rfl⟩ : ∃ m, k = m + 1 := ⟨k - 1, by omega⟩
    simp only [spec_DiskNew.l0]
    by_cases c1 : 0 < m
    · rw [if_pos c1, if_neg (by omega)]
    · rw [if_neg c1]
theorem new_some (m : Int) : ∃ l : List ByteArray, l.length ≤ 200 ∧ impl_DiskNew.f m = some (l, l) := by
  unfold impl_DiskNew.f
  rw [inR_f]
  simp only [Option.bind_some]
  by_cases c : 0 ≤ m ∧ m ≤ 200
  · rw [if_pos (by simpa using c), if_pos c.1, if_pos (by omega)]
    exact ⟨_, by simp; omega, rfl⟩
  · rw [if_neg (by simpa using c)]
    exact ⟨[], by simp, rfl⟩
theorem FnExactStoreNew : laws_FnExactStoreNew.Pure := by
  intro m hm
  refine ⟨8388612, ?_⟩
  generalize hk : 8388612 = k
  obtain ⟨l, hl, hn⟩ := new_some m
  have he := eqD_f l l k (by omega) (by omega) (by omega)
  have hh := hdD_f l.length l.length k (by omega) (by omega) (by omega)
  have hm := mkD_f l l k (by omega) (by omega) (by omega)
  have hs := new_same m k (by omega)
  obtain ⟨k, rfl⟩ : ∃ m, k = m + 1 := ⟨k - 1, by omega⟩
  have hU : ∀ n : Int, laws_markUpS.f (k + 1) [] n = some n := fun n => by simp [laws_markUpS.f, laws_markUpS.l0]
  have hE : laws_eqUpS.f (k + 1) [] [] = some true := by simp [laws_eqUpS.f, laws_eqUpS.l0]
  have hH : ∀ n : Int, laws_heldUpS.f (k + 1) [] n = some n := fun n => by simp [laws_heldUpS.f, laws_heldUpS.l0]
  have hneg : ((1 : Int) + (l.length : Int) + (l.length : Int) < 0) = False := by simp; omega
  unfold laws_FnExactStoreNew.f impl_StoreNew.f spec_StoreNew.f
  simp only [hs, hn, Option.bind_some, laws_eqStore.f, laws_markStore.f, laws_heldStore.f, he, hm, hh, hU, hE, hH, if_true, hneg, if_false]
end Go.Proofs.Ytcmjabahehjjhaa.Pure
