/- The law FnSectors answers true at every code: behind a crash each sector of a drawn disk is as it was made sure, or as it was, as it was kept. For every input; no condition. -/
import Derived.Test.YtnfpcciafbdoiaaSFnSectors
namespace Go.Proofs.Ytnfpcciafbdoiaa.Pure
open Go.RowKit Go.Proofs.Ytnfpcciafbdoiaa.QFnSectors Go.Proofs.YtnfpcciafbdoiaaW.PrintWords Go.Proofs.YtnfpcciafbdoiaaW.PrintLast Go.Proofs.YtnfpcciafbdoiaaW.PrintOpen
set_option linter.unusedVariables false
set_option linter.unusedSimpArgs false
theorem w64 {x : Int} (h0 : -9223372036854775808 ≤ x) (h1 : x ≤ 9223372036854775807) : wrap64 x = x := by unfold wrap64; omega
theorem wi {n m : Nat} (h : n < m) (hm : m ≤ 9223372036854775807) : wrap64 ((n : Int) + 1) = ((n + 1 : Nat) : Int) := by unfold wrap64; omega
theorem rdOf_mid {α : Type} (d : α) (p : List α) (s : α) (q : List α) : rdOf d (p ++ s :: q) (p.length : Int) = s := by simp [rdOf]
theorem set_mid {α : Type} (p : List α) (s v : α) (q : List α) : (p ++ s :: q).set ((p.length : Int)).toNat v = p ++ v :: q := by simp
theorem len_mid {α : Type} (p : List α) (s : α) (q : List α) : (p.length : Int) < ((p ++ s :: q).length : Int) := by simp; omega
theorem len_end {α : Type} (p : List α) : ¬ (p.length : Int) < ((p ++ []).length : Int) := by simp
theorem nn (n : Nat) : 0 ≤ (n : Int) := by omega
theorem rdOf_at {α : Type} (d : α) {p : List α} {s : α} {q : List α} {n : Nat} (h : p.length = n) : rdOf d (p ++ s :: q) (n : Int) = s := by subst h; exact rdOf_mid d p s q
theorem set_at {α : Type} {p : List α} {s v : α} {q : List α} {n : Nat} (h : p.length = n) : (p ++ s :: q).set ((n : Int)).toNat v = p ++ v :: q := by subst h; exact set_mid p s v q
theorem lt_at {α : Type} {p : List α} {s : α} {q : List α} {n : Nat} (h : p.length = n) : (n : Int) < ((p ++ s :: q).length : Int) := by subst h; exact len_mid p s q
theorem end_at {α : Type} {p : List α} {n : Nat} (h : p.length = n) : ¬ (n : Int) < ((p ++ []).length : Int) := by subst h; exact len_end p
theorem len_same {α : Type} {p p' q q' : List α} (h : p.length = p'.length) (h2 : q.length = q'.length) : (p ++ q).length = (p' ++ q').length := by simp [h, h2]
theorem rd_mid (p : List Int) (s : Int) (q : List Int) : rd (p ++ s :: q) (p.length : Int) = s := by simp [rd]
theorem rd_at {p : List Int} {s : Int} {q : List Int} {n : Nat} (h : p.length = n) : rd (p ++ s :: q) (n : Int) = s := by subst h; exact rd_mid p s q
theorem and255 (n : Int) : Go.bits .and .i64 n 255 = n % 256 := by
  have h127 : (BitVec.ofInt 64 255).toNat = 2 ^ 8 - 1 := by decide
  have key : (BitVec.ofInt 64 n &&& BitVec.ofInt 64 255).toNat = (n % ((2 ^ 64 : Nat) : Int)).toNat % 2 ^ 8 := by
    rw [BitVec.toNat_and, BitVec.toNat_ofInt, h127, Nat.and_two_pow_sub_one_eq_mod]
  show IntKind.i64.wrap ((BitVec.ofInt 64 n &&& BitVec.ofInt 64 255).toNat : Nat) = n % 256
  rw [key, IntKind.wrap_i64]
  omega
theorem wi0 {n m : Nat} (h : n < m) (hm : m ≤ 9223372036854775807) : wrap64 ((n : Int) + 1) = ((n + 1 : Nat) : Int) := by unfold wrap64; omega
theorem new_l0 (L : List Int) (hL : L.length ≤ 9223372036854775807) (d : Nat) : ∀ (n k : Nat) (h : Int), n + d = 4000 → d < k → ∃ h', spec_l1New.l0 k L h (n : Int) = some (L, 0, h') := by
  induction d with
  | zero =>
    intro n k h hn hk
    obtain ⟨k, rfl⟩ : ∃ m, k = m + 1 := ⟨k - 1, by omega⟩
    simp only [spec_l1New.l0]
    by_cases c : (n : Int) < (L.length : Int)
    · rw [if_pos c, if_neg (by omega)]; exact ⟨_, rfl⟩
    · rw [if_neg c]; exact ⟨_, rfl⟩
  | succ d ih =>
    intro n k h hn hk
    obtain ⟨k, rfl⟩ : ∃ m, k = m + 1 := ⟨k - 1, by omega⟩
    simp only [spec_l1New.l0]
    by_cases c : (n : Int) < (L.length : Int)
    · rw [if_pos c, if_pos (by omega), if_pos (by omega), wi0 (m := n + 1) (by omega) (by omega)]
      exact ih (n + 1) k _ (by omega) (by omega)
    · rw [if_neg c]; exact ⟨_, rfl⟩
theorem new_f (L : List Int) (hL : L.length ≤ 9223372036854775807) (k : Nat) (hk : 4001 < k) : ∃ h, spec_l1New.f k L = some (L, 0, h) := by
  unfold spec_l1New.f
  exact new_l0 L hL 4000 0 k _ (by omega) (by omega)
def St (L : List Int) (i : Int) : Prop := 0 ≤ i ∧ i ≤ (L.length : Int) ∧ (L.length : Int) ≤ 9223372036854775807
theorem byte_f {L : List Int} {i : Int} (h : Int) (hs : St L i) : ∃ x i' h', spec_l1Byte.f L i h = some (x, i', h') ∧ 0 ≤ x ∧ x ≤ 255 ∧ St L i' := by
  obtain ⟨h0, h1, h2⟩ := hs
  unfold spec_l1Byte.f
  by_cases c : i < (L.length : Int)
  · rw [if_pos c, if_pos h0]
    refine ⟨_, _, _, rfl, ?_, ?_, ?_, ?_, h2⟩
    · rw [and255]; omega
    · rw [and255]; omega
    · unfold wrap64; omega
    · unfold wrap64; omega
  · rw [if_neg c]
    refine ⟨_, _, _, rfl, ?_, ?_, h0, h1, h2⟩
    · rw [and255]; omega
    · rw [and255]; omega
theorem below_f {L : List Int} {i : Int} (h n : Int) (hs : St L i) : ∃ x i' h', spec_l1Below.f L i h n = some (x, i', h') ∧ 0 ≤ x ∧ (0 < n → x < n) ∧ (n ≤ 0 → x = 0) ∧ St L i' := by
  unfold spec_l1Below.f
  by_cases c : n ≤ 0
  · rw [if_pos c]
    exact ⟨0, i, h, rfl, by omega, fun q => by omega, fun _ => rfl, hs⟩
  · rw [if_neg c]
    by_cases c2 : n ≤ 256
    · rw [if_pos c2]
      obtain ⟨x, i', h', e, a, b, s⟩ := byte_f h hs
      rw [e]
      simp only [Option.bind_some]
      rw [if_neg (by omega)]
      refine ⟨_, _, _, rfl, Int.tmod_nonneg _ a, fun _ => Int.tmod_lt_of_pos _ (by omega), fun q => by omega, s⟩
    · rw [if_neg c2]
      obtain ⟨x, i1, h1, e1, a1, b1, s1⟩ := byte_f h hs
      rw [e1]
      simp only [Option.bind_some]
      obtain ⟨y, i2, h2, e2, a2, b2, s2⟩ := byte_f h1 s1
      rw [e2]
      simp only [Option.bind_some]
      obtain ⟨z, i3, h3, e3, a3, b3, s3⟩ := byte_f h2 s2
      rw [e3]
      simp only [Option.bind_some]
      rw [if_neg (by omega)]
      refine ⟨_, _, _, rfl, Int.tmod_nonneg _ ?_, fun _ => Int.tmod_lt_of_pos _ (by omega), fun q => by omega, s3⟩
      unfold wrap64
      omega
theorem once_f {L : List Int} {i : Int} (h n : Int) (hs : St L i) : ∃ x i' h', spec_l1Once.f L i h n = some (x, i', h') ∧ St L i' := by
  unfold spec_l1Once.f
  obtain ⟨x, i', h', e, _, _, _, s⟩ := below_f h n hs
  rw [e]
  exact ⟨_, _, _, rfl, s⟩
theorem int_f {L : List Int} {i : Int} (h : Int) (l : List Int) (hs : St L i) (hl : 0 < l.length) : ∃ x i' h', spec_l1Int.f L i h l = some (x, i', h') ∧ x ∈ l ∧ St L i' := by
  unfold spec_l1Int.f
  obtain ⟨x, i', h', e, a, b, _, s⟩ := below_f h (l.length : Int) hs
  have := b (by omega)
  rw [e]
  simp only [Option.bind_some]
  rw [if_pos a, if_pos this]
  refine ⟨_, _, _, rfl, ?_, s⟩
  unfold rd
  rw [List.getD_eq_getElem?_getD, List.getElem?_eq_getElem (show x.toNat < l.length by omega)]
  exact List.getElem_mem _
theorem str_f {L : List Int} {i : Int} (h : Int) (l : List ByteArray) (hs : St L i) (hl : 0 < l.length) : ∃ x i' h', spec_l1Str.f L i h l = some (x, i', h') ∧ x ∈ l ∧ St L i' := by
  unfold spec_l1Str.f
  obtain ⟨x, i', h', e, a, b, _, s⟩ := below_f h (l.length : Int) hs
  have := b (by omega)
  rw [e]
  simp only [Option.bind_some]
  rw [if_pos a, if_pos this]
  refine ⟨_, _, _, rfl, ?_, s⟩
  unfold rdOf
  rw [List.getD_eq_getElem?_getD, List.getElem?_eq_getElem (show x.toNat < l.length by omega)]
  exact List.getElem_mem _
theorem inR_f (a b c : Int) : impl_inRange.f a b c = some (decide (b ≤ a ∧ a ≤ c)) := by
  unfold impl_inRange.f
  by_cases h : a ≥ b
  · rw [if_pos h]; simp [show b ≤ a from h]
  · rw [if_neg h]; simp [show ¬ b ≤ a from h]
theorem l1In_f (a b c : Int) : spec_l1In.f a b c = some (decide (b ≤ a ∧ a ≤ c)) := by
  unfold spec_l1In.f
  by_cases h : a ≥ b
  · rw [if_pos h]; simp [show b ≤ a from h]
  · rw [if_neg h]; simp [show ¬ b ≤ a from h]
def sumSz (l : List ByteArray) : Nat := (l.map ByteArray.size).sum
def okL : List ByteArray → List ByteArray → Bool
  | a :: l, b :: m => decide (a.size ≤ 64) && (decide (b.size ≤ 64) && okL l m)
  | _, _ => true
theorem okL_nil (l : List ByteArray) : okL [] l = true := by cases l <;> rfl
def okD (a b : List ByteArray) : Bool := decide (a.length = b.length) && (decide (a.length ≤ 200) && okL a b)
theorem sOk_l0 (q : List ByteArray) : ∀ (q' p p' : List ByteArray) (n k : Nat), p.length = n → p'.length = n → q.length = q'.length → q.length < k → (p ++ q).length ≤ 200 → spec_DiskOk.l0 k (n : Int) (p ++ q) (p' ++ q') = some (okL q q') := by
  induction q with
  | nil =>
    intro q' p p' n k hp hp' hq hk hl
    obtain ⟨k, rfl⟩ : ∃ m, k = m + 1 := ⟨k - 1, by omega⟩
    simp only [spec_DiskOk.l0]
    rw [if_neg (end_at hp), okL_nil]
  | cons s q ih =>
    intro q' p p' n k hp hp' hq hk hl
    obtain ⟨k, rfl⟩ : ∃ m, k = m + 1 := ⟨k - 1, by omega⟩
    obtain ⟨y, z, rfl⟩ : ∃ y z, q' = y :: z := by cases q' with | nil => simp at hq | cons y z => exact ⟨y, z, rfl⟩
    simp only [List.length_append, List.length_cons] at hq hk hl
    simp only [spec_DiskOk.l0]
    rw [if_pos (lt_at hp), if_pos (nn _), rdOf_at _ hp, rdOf_at _ hp', if_pos (lt_at hp')]
    by_cases c : (s.size : Int) > 64
    · rw [if_pos c]; have h1 : ¬ s.size ≤ 64 := by omega
      simp [okL, h1]
    · rw [if_neg c]
      by_cases c2 : (y.size : Int) > 64
      · rw [if_pos c2]; have h1 : ¬ y.size ≤ 64 := by omega
        simp [okL, h1]
      · rw [if_neg c2, wi (m := n + 1) (by omega) (by omega)]
        have := ih z (p ++ [s]) (p' ++ [y]) (n + 1) k (by simp [hp]) (by simp [hp']) (by omega) (by omega) (by simp; omega)
        simp only [List.append_assoc, List.cons_append, List.nil_append] at this
        rw [this]
        have h1 : s.size ≤ 64 := by omega
        have h2 : y.size ≤ 64 := by omega
        simp [okL, h1, h2]
theorem sOk_f (a b : List ByteArray) (k : Nat) (hk : 300 < k) : spec_DiskOk.f k a b = some (okD a b) := by
  obtain ⟨k, rfl⟩ : ∃ m, k = m + 1 := ⟨k - 1, by omega⟩
  unfold spec_DiskOk.f
  by_cases c : (a.length : Int) = (b.length : Int)
  · rw [if_pos c]
    have c1 : a.length = b.length := by omega
    by_cases c2 : a.length ≤ 200
    · have := sOk_l0 a b [] [] 0 k rfl rfl c1 (by omega) (by simpa using c2)
      simp only [spec_DiskOk.j0]
      rw [if_neg (by simp; omega)]
      have h2 : spec_DiskOk.l0 k 0 a b = some (okL a b) := by simpa using this
      rw [h2]
      simp [okD, c1, c1 ▸ c2]
    · simp only [spec_DiskOk.j0]
      rw [if_pos (by simp; omega)]
      simp [okD, c2]
  · rw [if_neg c]
    simp only [spec_DiskOk.j0]
    have c1 : ¬ a.length = b.length := by omega
    simp [okD, c1]
theorem iOk_l0 (q : List ByteArray) : ∀ (q' p p' : List ByteArray) (n k : Nat), p.length = n → p'.length = n → q.length = q'.length → q.length < k → (p ++ q).length ≤ 200 → impl_DiskOk.l0 k ((p ++ q).length : Int) (n : Int) (p ++ q) (p' ++ q') = some (okL q q') := by
  induction q with
  | nil =>
    intro q' p p' n k hp hp' hq hk hl
    obtain ⟨k, rfl⟩ : ∃ m, k = m + 1 := ⟨k - 1, by omega⟩
    simp only [impl_DiskOk.l0]
    rw [if_neg (end_at hp), okL_nil]
  | cons s q ih =>
    intro q' p p' n k hp hp' hq hk hl
    obtain ⟨k, rfl⟩ : ∃ m, k = m + 1 := ⟨k - 1, by omega⟩
    obtain ⟨y, z, rfl⟩ : ∃ y z, q' = y :: z := by cases q' with | nil => simp at hq | cons y z => exact ⟨y, z, rfl⟩
    have hl2 := hl
    simp only [List.length_append, List.length_cons] at hq hk hl2
    simp only [impl_DiskOk.l0]
    rw [if_pos (lt_at hp), if_pos (nn _), if_pos (lt_at hp), rdOf_at _ hp, rdOf_at _ hp', if_pos (lt_at hp')]
    by_cases c : (s.size : Int) > 64
    · rw [if_pos c]; have h1 : ¬ s.size ≤ 64 := by omega
      simp [okL, h1]
    · rw [if_neg c]
      by_cases c2 : (y.size : Int) > 64
      · rw [if_pos c2]; have h1 : ¬ y.size ≤ 64 := by omega
        simp [okL, h1]
      · rw [if_neg c2, wi (m := n + 1) (by omega) (by omega)]
        have := ih z (p ++ [s]) (p' ++ [y]) (n + 1) k (by simp [hp]) (by simp [hp']) (by omega) (by omega) (by simp; omega)
        simp only [List.append_assoc, List.cons_append, List.nil_append] at this
        rw [this]
        have h1 : s.size ≤ 64 := by omega
        have h2 : y.size ≤ 64 := by omega
        simp [okL, h1, h2]
theorem iOk_f (a b : List ByteArray) (k : Nat) (hk : 300 < k) : impl_DiskOk.f k a b = some (okD a b) := by
  obtain ⟨k, rfl⟩ : ∃ m, k = m + 1 := ⟨k - 1, by omega⟩
  unfold impl_DiskOk.f
  by_cases c : (a.length : Int) = (b.length : Int)
  · rw [if_pos c]
    have c1 : a.length = b.length := by omega
    by_cases c2 : a.length ≤ 200
    · have := iOk_l0 a b [] [] 0 k rfl rfl c1 (by omega) (by simpa using c2)
      simp only [impl_DiskOk.j0]
      rw [if_neg (by simp; omega)]
      have h2 : impl_DiskOk.l0 k (a.length : Int) 0 a b = some (okL a b) := by simpa using this
      rw [h2]
      simp [okD, c1, c1 ▸ c2]
    · simp only [impl_DiskOk.j0]
      rw [if_pos (by simp; omega)]
      simp [okD, c2]
  · rw [if_neg c]
    simp only [impl_DiskOk.j0]
    have c1 : ¬ a.length = b.length := by omega
    simp [okD, c1]
theorem clone_f (l : List ByteArray) (hl : l.length ≤ 8000000000000) : slices_Clone_string_string.f l = some l := by
  unfold slices_Clone_string_string.f
  simp only [Option.bind_some]
  rw [if_pos (by simp; omega)]
  simp
theorem copyD_f (a b : List ByteArray) (ha : a.length ≤ 8000000000000) (hb : b.length ≤ 8000000000000) : impl_copyDisk.f a b = some (a, b) := by
  unfold impl_copyDisk.f
  rw [clone_f a ha, clone_f b hb]; rfl
theorem l12Copy_f (a b : List ByteArray) (ha : a.length ≤ 8000000000000) (hb : b.length ≤ 8000000000000) : spec_l12Copy.f a b = some (a, b) := by
  unfold spec_l12Copy.f
  simp only [Option.bind_some]
  rw [if_pos (by simp; omega), if_pos (by simp; omega)]
  simp
def fallL (K : List Bool) : Nat → List ByteArray → List ByteArray → List ByteArray
  | n, a :: l, b :: m => (if rdOf false K (n : Int) = true ∧ (n : Int) < (K.length : Int) then a else b) :: fallL K (n + 1) l m
  | _, _, _ => []
theorem fallL_len (K : List Bool) : ∀ (a b : List ByteArray) (n : Nat), a.length = b.length → (fallL K n a b).length = a.length
  | [], _, _, _ => by simp [fallL]
  | x :: a, [], _, h => by simp at h
  | x :: a, y :: b, n, h => by simp [fallL, fallL_len K a b (n + 1) (by simpa using h)]
def fallD (a b : List ByteArray) (K : List Bool) : List ByteArray × List ByteArray := if okD a b = true then (fallL K 0 a b, fallL K 0 a b) else (a, b)
theorem okD_len {a b : List ByteArray} (h : okD a b = true) : a.length = b.length ∧ a.length ≤ 200 := by
  simp [okD] at h; exact ⟨h.1, h.2.1⟩
theorem fallD_len (a b : List ByteArray) (K : List Bool) : (fallD a b K).1.length = a.length ∧ (fallD a b K).2.length = b.length := by
  unfold fallD
  split
  · rename_i h
    have := (okD_len h).1
    simp [fallL_len K a b 0 this, this]
  · simp
theorem rd_set_same {p' : List ByteArray} {n : Nat} (x : ByteArray) (q' : List ByteArray) (y : ByteArray) (h : p'.length = n) : (p' ++ y :: q').set ((n : Int)).toNat x = (p' ++ [x]) ++ q' := by rw [set_at h]; simp
theorem iFall_l0 (K : List Bool) (q : List ByteArray) : ∀ (q' p p' : List ByteArray) (n k : Nat), p.length = n → p'.length = n → q.length = q'.length → q.length < k → n + q.length ≤ 200 → impl_FallDisk.l0 k K ((n + q.length : Nat) : Int) (n : Int) (p ++ q) (p' ++ q') = some (p ++ fallL K n q q', p' ++ fallL K n q q') := by
  induction q with
  | nil =>
    intro q' p p' n k hp hp' hq hk hl
    obtain ⟨k, rfl⟩ : ∃ m, k = m + 1 := ⟨k - 1, by omega⟩
    obtain rfl : q' = [] := List.length_eq_zero_iff.mp (by simpa using hq.symm)
    simp only [impl_FallDisk.l0]
    rw [if_neg (by simp)]
    simp [fallL]
  | cons s q ih =>
    intro q' p p' n k hp hp' hq hk hl
    obtain ⟨k, rfl⟩ : ∃ m, k = m + 1 := ⟨k - 1, by omega⟩
    obtain ⟨y, z, rfl⟩ : ∃ y z, q' = y :: z := by cases q' with | nil => simp at hq | cons y z => exact ⟨y, z, rfl⟩
    simp only [List.length_cons] at hq hk hl
    have hN : ((n + (s :: q).length : Nat) : Int) = (((n + 1) + q.length : Nat) : Int) := by simp; omega
    have a1 : (n : Int) < ((p ++ s :: q).length : Int) := lt_at hp
    have a2 : (n : Int) < ((p' ++ y :: z).length : Int) := lt_at hp'
    have a3 : (0 : Int) ≤ (n : Int) := nn n
    simp only [impl_FallDisk.l0, a1, a2, a3, if_true]
    rw [if_pos (show (n : Int) < ((n + (s :: q).length : Nat) : Int) by simp; omega), rdOf_at _ hp, rdOf_at _ hp', rd_set_same _ _ _ hp, rd_set_same _ _ _ hp', wi (m := n + 1) (by omega) (by omega), hN]
    have ea : p ++ s :: q = (p ++ [s]) ++ q := by simp
    have eb : p' ++ y :: z = (p' ++ [y]) ++ z := by simp
    by_cases c1 : (n : Int) < (K.length : Int)
    · rw [if_pos c1]
      by_cases c2 : rdOf false K (n : Int) = true
      · rw [if_pos c2, ea, ih z (p ++ [s]) (p' ++ [s]) (n + 1) k (by simp [hp]) (by simp [hp']) (by omega) (by omega) (by omega)]
        simp [fallL, c1, c2]
      · rw [if_neg c2, eb, ih z (p ++ [y]) (p' ++ [y]) (n + 1) k (by simp [hp]) (by simp [hp']) (by omega) (by omega) (by omega)]
        simp [fallL, c2]
    · rw [if_neg c1, eb, ih z (p ++ [y]) (p' ++ [y]) (n + 1) k (by simp [hp]) (by simp [hp']) (by omega) (by omega) (by omega)]
      simp [fallL, show ¬ n < K.length by omega]
theorem iFall_f (a b : List ByteArray) (K : List Bool) (k : Nat) (hk : 300 < k) (ha : a.length ≤ 1048576) (hb : b.length ≤ 1048576) : impl_FallDisk.f k a b K = some (fallD a b K) := by
  unfold impl_FallDisk.f fallD
  rw [copyD_f a b (by omega) (by omega), iOk_f a b k hk]
  simp only [Option.bind_some]
  by_cases c : okD a b = true
  · rw [if_pos c, if_pos c]
    obtain ⟨h1, h2⟩ := okD_len c
    simpa using iFall_l0 K a b [] [] 0 k rfl rfl h1 (by omega) (by omega)
  · rw [if_neg c, if_neg c]
def putD (a b : List ByteArray) (i : Int) (s : ByteArray) : List ByteArray × List ByteArray × Bool :=
  if okD a b = true ∧ (0 ≤ i ∧ i ≤ (a.length : Int) - 1) ∧ (s.size : Int) ≤ 64 then (a.set i.toNat s, b, true) else (a, b, false)
theorem putD_len (a b : List ByteArray) (i : Int) (s : ByteArray) : (putD a b i s).1.length = a.length ∧ (putD a b i s).2.1.length = b.length := by
  unfold putD
  split <;> simp
theorem sPut_f (a b : List ByteArray) (i : Int) (s : ByteArray) (k : Nat) (hk : 300 < k) (ha : a.length ≤ 1048576) (hb : b.length ≤ 1048576) : spec_PutSector.f k a b i s = some (putD a b i s) := by
  unfold spec_PutSector.f putD
  rw [l12Copy_f a b (by omega) (by omega), l1In_f, w64 (by omega) (by omega), sOk_f a b k hk]
  simp only [Option.bind_some]
  by_cases c3 : okD a b = true
  · rw [if_pos c3]
    by_cases c : 0 ≤ i ∧ i ≤ (a.length : Int) - 1
    · rw [if_pos (by simpa using c)]
      by_cases c2 : (s.size : Int) > 64
      · rw [if_pos c2, if_neg (by omega)]
      · rw [if_neg c2, if_pos c.1, if_pos (by omega), if_pos ⟨c3, c, by omega⟩]
    · rw [if_neg (by simpa using c), if_neg (by simp [c])]
  · rw [if_neg c3, if_neg (by simp [c3])]
theorem sFlush_f (a b : List ByteArray) (ha : a.length ≤ 8000000000000) : spec_FlushDisk.f a b = some (a, a) := by
  unfold spec_FlushDisk.f
  simp only [Option.bind_some]
  rw [if_pos (by simp <;> omega), if_pos (by simp <;> omega)]
  simp
theorem iFlush_f (a b : List ByteArray) (ha : a.length ≤ 8000000000000) : impl_FlushDisk.f a b = some (a, a) := by
  unfold impl_FlushDisk.f
  rw [clone_f a ha]; rfl
theorem new_l0' (d : Nat) : ∀ (n k : Nat) (m : Int), n + d = m.toNat → m ≤ 200 → d < k → spec_DiskNew.l0 k m (n : Int) (List.replicate n (⟨#[]⟩ : ByteArray)) (List.replicate n (⟨#[]⟩ : ByteArray)) = some (List.replicate (n + d) (⟨#[]⟩ : ByteArray), List.replicate (n + d) (⟨#[]⟩ : ByteArray)) := by
  induction d with
  | zero =>
    intro n k m h hm hk
    obtain ⟨k, rfl⟩ : ∃ m, k = m + 1 := ⟨k - 1, by omega⟩
    simp only [spec_DiskNew.l0]
    rw [if_neg (by omega)]
    rfl
  | succ d ih =>
    intro n k m h hm hk
    obtain ⟨k, rfl⟩ : ∃ m, k = m + 1 := ⟨k - 1, by omega⟩
    simp only [spec_DiskNew.l0]
    rw [if_pos (by omega), if_pos hm, if_pos (by simp; omega), if_pos (by simp; omega), wi (m := n + 1) (by omega) (by omega), ← List.replicate_succ', ih (n + 1) k m (by omega) hm (by omega), show n + 1 + d = n + (d + 1) by omega]
theorem sNew_f (m : Int) (hm : 0 ≤ m ∧ m ≤ 200) (k : Nat) (hk : 1000 < k) : spec_DiskNew.f k m = some (List.replicate m.toNat (⟨#[]⟩ : ByteArray), List.replicate m.toNat (⟨#[]⟩ : ByteArray)) := by
  unfold spec_DiskNew.f
  have := new_l0' m.toNat 0 k m (by omega) hm.2 (by omega)
  simpa using this
theorem l12Some_f {L : List Int} {i : Int} (h : Int) (hs : St L i) : ∃ x i' h', spec_l12Some.f L i h = some (x, i', h') ∧ St L i' := by
  unfold spec_l12Some.f
  obtain ⟨x, i', h', e, _, s⟩ := str_f h _ hs (show 0 < [(⟨#[]⟩ : ByteArray), (⟨#[97]⟩ : ByteArray), (⟨#[98, 98]⟩ : ByteArray), (⟨#[0]⟩ : ByteArray), (⟨#[120, 121, 122]⟩ : ByteArray)].length by simp)
  rw [e]
  exact ⟨_, _, _, rfl, s⟩
theorem l12_loop (L : List Int) (d : Nat) : ∀ (k : Nat) (x i h : Int) (a b : List ByteArray), x.toNat ≤ d → x ≤ 1000 → 2 * d + 400 < k → St L i → a.length ≤ 200 → b.length ≤ 200 →
    ∃ a' b' i' h', spec_l12Draw.l0 k x L i h a b = some (a', b', i', h') ∧ a'.length ≤ 200 ∧ b'.length ≤ 200 ∧ St L i' := by
  induction d with
  | zero =>
    intro k x i h a b hx hx1 hk hs ha hb
    obtain ⟨k, rfl⟩ : ∃ m, k = m + 2 := ⟨k - 2, by omega⟩
    simp only [spec_l12Draw.l0]
    rw [if_neg (by omega)]
    simp only [spec_l12Draw.j1, Bool.false_eq_true, if_false]
    exact ⟨_, _, _, _, rfl, ha, hb, hs⟩
  | succ d ih =>
    intro k x i h a b hx hx1 hk hs ha hb
    obtain ⟨k, rfl⟩ : ∃ m, k = m + 2 := ⟨k - 2, by omega⟩
    simp only [spec_l12Draw.l0]
    by_cases c : x > 0
    · rw [if_pos c]
      simp only [spec_l12Draw.j1]
      by_cases c2 : (decide ((a.length : Int) > 0)) = true
      · rw [if_pos c2]
        obtain ⟨y, i1, h1, e1, _, _, _, s1⟩ := below_f h (a.length : Int) hs
        rw [e1]
        simp only [Option.bind_some]
        obtain ⟨z, i2, h2, e2, s2⟩ := l12Some_f h1 s1
        rw [e2]
        simp only [Option.bind_some]
        rw [sPut_f a b y z k (by omega) (by omega) (by omega)]
        simp only [Option.bind_some]
        obtain ⟨o, i3, h3, e3, s3⟩ := once_f h2 3 s2
        rw [e3]
        simp only [Option.bind_some]
        obtain ⟨hp1, hp2⟩ := putD_len a b y z
        rw [w64 (x := x - 1) (by omega) (by omega)]
        by_cases c3 : o = true
        · rw [if_pos c3, sFlush_f _ _ (by omega)]
          simp only [Option.bind_some]
          exact ih k (x - 1) i3 h3 _ _ (by omega) (by omega) (by omega) s3 (by omega) (by omega)
        · rw [if_neg c3]
          exact ih k (x - 1) i3 h3 _ _ (by omega) (by omega) (by omega) s3 (by omega) (by omega)
      · rw [if_neg c2]
        exact ⟨_, _, _, _, rfl, ha, hb, hs⟩
    · rw [if_neg c]
      simp only [spec_l12Draw.j1, Bool.false_eq_true, if_false]
      exact ⟨_, _, _, _, rfl, ha, hb, hs⟩
theorem l12Draw_f {L : List Int} {i : Int} (h : Int) (hs : St L i) (k : Nat) (hk : 5000 < k) : ∃ a b i' h', spec_l12Draw.f k L i h = some (a, b, i', h') ∧ a.length ≤ 200 ∧ b.length ≤ 200 ∧ St L i' := by
  unfold spec_l12Draw.f
  obtain ⟨x, i1, h1, e1, hx, s1⟩ := int_f h [4, 1, 0, 6] hs (by simp)
  rw [e1]
  simp only [Option.bind_some]
  have hx2 : 0 ≤ x ∧ x ≤ 200 := by simp at hx; omega
  rw [sNew_f x hx2 k (by omega)]
  simp only [Option.bind_some]
  obtain ⟨y, i2, h2, e2, hy0, hy1, _, s2⟩ := below_f h1 6 s1
  rw [e2]
  simp only [Option.bind_some]
  exact l12_loop L 6 k y i2 h2 _ _ (by omega) (by omega) (by omega) s2 (by simp; omega) (by simp; omega)
theorem l12Any_f {L : List Int} {i : Int} (h : Int) (hs : St L i) (k : Nat) (hk : 5000 < k) : ∃ a b i' h', spec_l12Any.f k L i h = some (a, b, i', h') ∧ a.length ≤ 201 ∧ b.length ≤ 201 ∧ St L i' := by
  unfold spec_l12Any.f
  obtain ⟨a, b, i1, h1, e1, ha, hb, s1⟩ := l12Draw_f h hs k hk
  rw [e1]
  simp only [Option.bind_some]
  obtain ⟨y, i2, h2, e2, hy0, hy1, _, s2⟩ := below_f h1 12 s1
  rw [e2]
  simp only [Option.bind_some]
  by_cases c : y = 0
  · rw [if_pos c, if_pos (by omega)]
    exact ⟨_, _, _, _, rfl, by simp; omega, by omega, s2⟩
  · rw [if_neg c]
    by_cases c1 : y = 1
    · rw [if_pos c1]
      by_cases c2 : (b.length : Int) > 0
      · rw [if_pos c2]
        obtain ⟨z, i3, h3, e3, hz0, hz1, _, s3⟩ := below_f h2 2 s2
        rw [e3]
        simp only [Option.bind_some]
        rw [w64 (x := 64 + z) (by omega) (by omega), if_pos (by omega), if_pos (by omega), if_pos (by omega)]
        exact ⟨_, _, _, _, rfl, by omega, by simp; omega, s3⟩
      · rw [if_neg c2]
        exact ⟨_, _, _, _, rfl, by omega, by omega, s2⟩
    · rw [if_neg c1]
      exact ⟨_, _, _, _, rfl, by omega, by omega, s2⟩
theorem kept_loop (L : List Int) (d : Nat) : ∀ (k : Nat) (z : List Bool) (x i h : Int), x.toNat ≤ d → x ≤ 1000 → d < k → St L i → z.length + d ≤ 10000 →
    ∃ z' i' h', spec_l12Kept.l0 k z x L i h = some (z', i', h') ∧ St L i' ∧ z'.length ≤ 10000 := by
  induction d with
  | zero =>
    intro k z x i h hx hx1 hk hs hz
    obtain ⟨k, rfl⟩ : ∃ m, k = m + 1 := ⟨k - 1, by omega⟩
    simp only [spec_l12Kept.l0]
    rw [if_neg (by omega)]
    exact ⟨_, _, _, rfl, hs, by omega⟩
  | succ d ih =>
    intro k z x i h hx hx1 hk hs hz
    obtain ⟨k, rfl⟩ : ∃ m, k = m + 1 := ⟨k - 1, by omega⟩
    simp only [spec_l12Kept.l0]
    by_cases c : x > 0
    · rw [if_pos c]
      obtain ⟨o, i2, h2, e2, s2⟩ := once_f h 2 hs
      rw [e2]
      simp only [Option.bind_some]
      rw [if_pos (by omega), w64 (x := x - 1) (by omega) (by omega)]
      exact ih k _ (x - 1) i2 h2 (by omega) (by omega) (by omega) s2 (by simp; omega)
    · rw [if_neg c]
      exact ⟨_, _, _, rfl, hs, by omega⟩
theorem l12Kept_f {L : List Int} {i : Int} (h : Int) (hs : St L i) (k : Nat) (hk : 100 < k) : ∃ z i' h', spec_l12Kept.f k L i h = some (z, i', h') ∧ St L i' ∧ z.length ≤ 10000 := by
  unfold spec_l12Kept.f
  obtain ⟨x, i1, h1, e1, h0, h8, _, s1⟩ := below_f h 8 hs
  rw [e1]
  simp only [Option.bind_some]
  exact kept_loop L 8 k [] x i1 h1 (by omega) (by omega) (by omega) s1 (by simp)
theorem drawFall_f (L : List Int) (hL : L.length ≤ 9223372036854775807) (k : Nat) (hk : 5000 < k) : ∃ a b z, spec_DrawFallDisk.f k L = some (a, b, z) ∧ a.length ≤ 201 ∧ b.length ≤ 201 ∧ z.length ≤ 10000 := by
  unfold spec_DrawFallDisk.f
  obtain ⟨h, e⟩ := new_f L hL k (by omega)
  rw [e]
  simp only [Option.bind_some]
  obtain ⟨a, b, i4, h4, e4, ha, hb, s4⟩ := l12Any_f h (show St L 0 from ⟨by omega, by omega, by omega⟩) k hk
  rw [e4]
  simp only [Option.bind_some]
  obtain ⟨z, i5, h5, e5, s5, hz⟩ := l12Kept_f h4 s4 k (by omega)
  rw [e5]
  simp only [Option.bind_some]
  exact ⟨_, _, _, rfl, ha, hb, hz⟩
theorem iSec_f (a b : List ByteArray) (n : Nat) (hn : n < a.length) (ha : a.length ≤ 1048576) : impl_SectorAt.f a b (n : Int) = some (rdOf ByteArray.empty a (n : Int)) := by
  unfold impl_SectorAt.f
  rw [inR_f, w64 (by omega) (by omega)]
  simp only [Option.bind_some]
  rw [if_pos (by simp; omega), if_pos (by omega), if_pos (by omega)]
theorem fallL_get (K : List Bool) : ∀ (a b : List ByteArray) (m n : Nat), a.length = b.length → n < a.length → rdOf ByteArray.empty (fallL K m a b) (n : Int) = if rdOf false K ((m + n : Nat) : Int) = true ∧ ((m + n : Nat) : Int) < (K.length : Int) then rdOf ByteArray.empty a (n : Int) else rdOf ByteArray.empty b (n : Int)
  | [], _, _, n, _, h => by simp at h
  | x :: a, [], _, _, h, _ => by simp at h
  | x :: a, y :: b, m, 0, h, hn => by simp only [fallL, Nat.add_zero]; unfold rdOf; split <;> simp_all
  | x :: a, y :: b, m, n + 1, h, hn => by
    have ih := fallL_get K a b (m + 1) n (by simpa using h) (by simpa using hn)
    have e : ∀ (z : ByteArray) (l : List ByteArray), rdOf ByteArray.empty (z :: l) ((n + 1 : Nat) : Int) = rdOf ByteArray.empty l (n : Int) := fun z l => by
      unfold rdOf; simp
    simp only [fallL, e]
    rw [ih, show m + 1 + n = m + (n + 1) by omega]
theorem okL_get : ∀ (a b : List ByteArray), a.length = b.length → (okL a b = true ↔ (∀ s ∈ a, s.size ≤ 64) ∧ (∀ s ∈ b, s.size ≤ 64))
  | [], [], _ => by simp [okL]
  | [], _ :: _, h => by simp at h
  | _ :: _, [], h => by simp at h
  | x :: a, y :: b, h => by
    have ih := okL_get a b (by simpa using h)
    simp only [okL, Bool.and_eq_true, decide_eq_true_eq, ih, List.mem_cons, forall_eq_or_imp]
    constructor
    · intro h; exact ⟨⟨h.1, h.2.2.1⟩, h.2.1, h.2.2.2⟩
    · intro h; exact ⟨h.1.1, h.2.1, h.1.2, h.2.2⟩
theorem fallL_mem (K : List Bool) : ∀ (a b : List ByteArray) (m : Nat) (s : ByteArray), s ∈ fallL K m a b → s ∈ a ∨ s ∈ b
  | [], _, _, _, h => by simp [fallL] at h
  | x :: a, [], _, _, h => by simp [fallL] at h
  | x :: a, y :: b, m, s, h => by
    simp only [fallL, List.mem_cons] at h
    rcases h with h | h
    · split at h <;> simp [h]
    · rcases fallL_mem K a b (m + 1) s h with h | h <;> simp [h]
theorem okD_fall (a b : List ByteArray) (K : List Bool) (h : okD a b = true) : okD (fallL K 0 a b) (fallL K 0 a b) = true := by
  obtain ⟨h1, h2⟩ := okD_len h
  have hl := fallL_len K a b 0 h1
  have h3 := (okL_get a b h1).1 (by simp [okD] at h; exact h.2.2)
  have h4 := (okL_get (fallL K 0 a b) (fallL K 0 a b) rfl).2 ⟨fun s hs => (fallL_mem K a b 0 s hs).elim (h3.1 s) (h3.2 s), fun s hs => (fallL_mem K a b 0 s hs).elim (h3.1 s) (h3.2 s)⟩
  simp [okD, hl, h2, h4]
theorem fall_nil (a : List ByteArray) : fallL [] 0 a a = a := by
  have h : ∀ (l : List ByteArray) (m : Nat), fallL [] m l l = l := by
    intro l
    induction l with
    | nil => intro m; rfl
    | cons x l ih => intro m; simp [fallL, ih]
  exact h a 0
theorem sec_l1 (a b xa xb : List ByteArray) (ha : a.length ≤ 1048576) (hok : okD xa xb = true) (hl : xa.length = a.length) (d : Nat) : ∀ (n k : Nat), n + d = a.length → d + 500 < k → laws_FnSectors.l1 k (n : Int) a b xa xb a a = some true := by
  induction d with
  | zero =>
    intro n k hn hk
    obtain ⟨k, rfl⟩ : ∃ m, k = m + 1 := ⟨k - 1, by omega⟩
    simp only [laws_FnSectors.l1]
    rw [if_neg (by omega), iOk_f xa xb k (by omega), hok]
    simp [hl]
  | succ d ih =>
    intro n k hn hk
    obtain ⟨k, rfl⟩ : ∃ m, k = m + 1 := ⟨k - 1, by omega⟩
    simp only [laws_FnSectors.l1]
    rw [if_pos (by omega), if_pos (by omega), if_pos (by omega), if_pos trivial, wi (m := n + 1) (by omega) (by omega)]
    exact ih (n + 1) k (by omega) (by omega)
theorem sec_l0 (a b : List ByteArray) (K : List Bool) (hok : okD a b = true) (d : Nat) : ∀ (n k : Nat), n + d = a.length → 2 * d + 2000 < k → laws_FnSectors.l0 k K (n : Int) a b (fallL K 0 a b) (fallL K 0 a b) = some true := by
  obtain ⟨h1, h2⟩ := okD_len hok
  have hl := fallL_len K a b 0 h1
  induction d with
  | zero =>
    intro n k hn hk
    obtain ⟨k, rfl⟩ : ∃ m, k = m + 1 := ⟨k - 1, by omega⟩
    have hoa : okD a a = true := by
      have h3 := (okL_get a b h1).1 (by simp [okD] at hok; exact hok.2.2)
      simp [okD, h2, (okL_get a a rfl).2 ⟨h3.1, h3.1⟩]
    simp only [laws_FnSectors.l0]
    rw [if_neg (by omega), iFlush_f a b (by omega)]
    simp only [Option.bind_some]
    rw [iFall_f a a [] k (by omega) (by omega) (by omega)]
    simp only [Option.bind_some, fallD, hoa, if_true, fall_nil]
    exact sec_l1 a b _ _ (by omega) (okD_fall a b K hok) hl a.length 0 k (by omega) (by omega)
  | succ d ih =>
    intro n k hn hk
    obtain ⟨k, rfl⟩ : ∃ m, k = m + 2 := ⟨k - 2, by omega⟩
    have hg := fallL_get K a b 0 n h1 (by omega)
    rw [Nat.zero_add] at hg
    have hS := iSec_f (fallL K 0 a b) (fallL K 0 a b) n (by omega) (by omega)
    have hnext := ih (n + 1) k (by omega) (by omega)
    have hw : wrap64 ((n : Int) + 1) = ((n + 1 : Nat) : Int) := wi (m := n + 1) (by omega) (by omega)
    have a1 : (n : Int) < (a.length : Int) := by omega
    have a2 : (n : Int) < (b.length : Int) := by omega
    have a3 : (0 : Int) ≤ (n : Int) := by omega
    have a4 : (n : Int) < ((fallL K 0 a b).length : Int) := by omega
    simp only [laws_FnSectors.l0, a1, a2, a3, if_true]
    by_cases c : (n : Int) < (K.length : Int)
    · rw [if_pos c]
      simp only [laws_FnSectors.j1, a1, a3, a4, if_true, hS, Option.bind_some, hw, hnext]
      by_cases c2 : rdOf false K (n : Int) = true
      · rw [if_pos ⟨c2, c⟩] at hg
        rw [if_pos c2, hg]
        simp
      · rw [if_neg (fun h => c2 h.1)] at hg
        rw [if_neg c2, hg]
        simp
    · rw [if_neg c]
      rw [if_neg (fun h => c h.2)] at hg
      simp only [laws_FnSectors.j1, a1, a3, a4, if_true, hS, Option.bind_some, hw, hnext, hg]
      simp
theorem FnSectors : laws_FnSectors.Pure := by
  intro L hL
  refine ⟨1100000, ?_⟩
  generalize hk : 1100000 = k
  unfold laws_FnSectors.f laws_big.f
  simp only [Option.bind_some]
  by_cases c : (L.length : Int) > 1048576
  · rw [if_pos (by simpa using c)]
  rw [if_neg (by simpa using c)]
  obtain ⟨a, b, K, e, ha, hb, hK⟩ := drawFall_f L hL.1 k (by omega)
  rw [e]
  simp only [Option.bind_some]
  rw [iFall_f a b K k (by omega) (by omega) (by omega), sOk_f a b k (by omega), iOk_f a b k (by omega)]
  simp only [Option.bind_some, fallD]
  by_cases c2 : okD a b = true
  · rw [if_pos c2, if_pos c2]
    exact sec_l0 a b K c2 a.length 0 k (by omega) (by omega)
  · rw [if_neg c2, if_neg c2, if_neg c2]
    simp
end Go.Proofs.Ytnfpcciafbdoiaa.Pure
