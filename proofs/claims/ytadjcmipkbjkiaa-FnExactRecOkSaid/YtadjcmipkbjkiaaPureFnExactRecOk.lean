/- The law FnExactRecOk answers true at every record: the program's RecOk is the reference's. For every input; no condition. -/
import Derived.Test.YtadjcmipkbjkiaaSFnExactRecOk
namespace Go.Proofs.Ytadjcmipkbjkiaa.Pure
open Go.RowKit Go.Proofs.Ytadjcmipkbjkiaa.QFnExactRecOk Go.Proofs.YtadjcmipkbjkiaaW.PrintWords Go.Proofs.YtadjcmipkbjkiaaW.PrintLast Go.Proofs.YtadjcmipkbjkiaaW.PrintOpen
set_option linter.unusedVariables false
set_option linter.unusedSimpArgs false
theorem w64 {x : Int} (h0 : -9223372036854775808 ≤ x) (h1 : x ≤ 9223372036854775807) : wrap64 x = x := by unfold wrap64; omega
theorem wi {n m : Nat} (h : n < m) (hm : m ≤ 9223372036854775807) : wrap64 ((n : Int) + 1) = ((n + 1 : Nat) : Int) := by unfold wrap64; omega
theorem rdOf_mid {α : Type} (d : α) (p : List α) (s : α) (q : List α) : rdOf d (p ++ s :: q) (p.length : Int) = s := by simp [rdOf]
theorem set_mid {α : Type} (p : List α) (s v : α) (q : List α) : (p ++ s :: q).set ((p.length : Int)).toNat v = p ++ v :: q := by simp
theorem len_mid {α : Type} (p : List α) (s : α) (q : List α) : (p.length : Int) < ((p ++ s :: q).length : Int) := by simp; omega
theorem len_end {α : Type} (p : List α) : ¬ (p.length : Int) < ((p ++ []).length : Int) := by simp
theorem nn (n : Nat) : 0 ≤ (n : Int) := by omega
theorem rdOf_at {α : Type} (d : α) {p : List α} {s : α} {q : List α} {n : Nat} (h : p.length = n) : rdOf d (p ++ s :: q) (n : Int) = s := by subst h; exact rdOf_mid d p s q
theorem set_at {α : Type} {p : List α} {s v : α} {q : List α} {n : Nat} (h : p.length = n) : (p ++ s :: q).set ((n : Int)).toNat v = p ++ v :: q := by subst h; exact set_mid p s v q
theorem lt_at {α : Type} {p : List α} {s : α} {q : List α} {n : Nat} (h : p.length = n) : (n : Int) < ((p ++ s :: q).length : Int) := by subst h; exact len_mid p s q
theorem end_at {α : Type} {p : List α} {n : Nat} (h : p.length = n) : ¬ (n : Int) < ((p ++ []).length : Int) := by subst h; exact len_end p
theorem len_same {α : Type} {p p' q q' : List α} (h : p.length = p'.length) (h2 : q.length = q'.length) : (p ++ q).length = (p' ++ q').length := by simp [h, h2]
theorem rd_mid (p : List Int) (s : Int) (q : List Int) : rd (p ++ s :: q) (p.length : Int) = s := by simp [rd]
theorem rd_at {p : List Int} {s : Int} {q : List Int} {n : Nat} (h : p.length = n) : rd (p ++ s :: q) (n : Int) = s := by subst h; exact rd_mid p s q
theorem inR_f (a b c : Int) : impl_inRange.f a b c = some (decide (b ≤ a ∧ a ≤ c)) := by
  unfold impl_inRange.f
  by_cases h : a ≥ b
  · rw [if_pos h]; simp [show b ≤ a from h]
  · rw [if_neg h]; simp [show ¬ b ≤ a from h]
theorem l1In_f (a b c : Int) : spec_l1In.f a b c = some (decide (b ≤ a ∧ a ≤ c)) := by
  unfold spec_l1In.f
  by_cases h : a ≥ b
  · rw [if_pos h]; simp [show b ≤ a from h]
  · rw [if_neg h]; simp [show ¬ b ≤ a from h]
theorem bt_lo (s : ByteArray) (i : Int) : 0 ≤ bt s i := by unfold bt; split <;> omega
theorem bt_hi (s : ByteArray) (i : Int) : bt s i ≤ 255 := by
  unfold bt
  split
  · have := (s[i.toNat]).toNat_lt; omega
  · omega
theorem id_l0 (s : ByteArray) (d : Nat) : ∀ (n k : Nat), n + d = s.size → s.size ≤ 9223372036854775807 → d < k → ∃ r, impl_idOk.l0 k s (n : Int) = some r ∧ spec_l11Id.l0 k s (n : Int) = some r := by
  induction d with
  | zero =>
    intro n k hn hs hk
    obtain ⟨k, rfl⟩ : ∃ m, k = m + 1 := ⟨k - 1, by omega⟩
    simp only [impl_idOk.l0, spec_l11Id.l0]
    rw [if_neg (by omega), if_neg (by omega), inR_f, l1In_f]
    exact ⟨_, rfl, rfl⟩
  | succ d ih =>
    intro n k hn hs hk
    obtain ⟨k, rfl⟩ : ∃ m, k = m + 1 := ⟨k - 1, by omega⟩
    obtain ⟨r, hr, hr2⟩ := ih (n + 1) k (by omega) hs (by omega)
    have h0 := bt_lo s n
    have h1 := bt_hi s n
    simp only [impl_idOk.l0, spec_l11Id.l0]
    have hl : (n : Int) < (s.size : Int) := by omega
    rw [if_pos hl, if_pos (nn n), if_pos hl, if_pos (nn n), w64 (x := bt s n) (by omega) (by omega), wi (m := s.size) (by omega) hs, hr, hr2, l1In_f, l1In_f]
    simp only [Option.bind_some, decide_eq_true_eq]
    by_cases c1 : 97 ≤ bt s n <;> by_cases c2 : bt s n ≤ 122 <;> by_cases c3 : 48 ≤ bt s n <;> by_cases c4 : bt s n ≤ 57 <;> first | omega | (simp [c1, c2, c3, c4])
theorem id_f (s : ByteArray) (k : Nat) (hs : s.size ≤ 9223372036854775807) (hk : s.size < k) : ∃ r, impl_idOk.f k s = some r ∧ spec_l11Id.f k s = some r := by
  unfold impl_idOk.f spec_l11Id.f
  exact id_l0 s s.size 0 k (by omega) hs hk
theorem toB_l0 (q : List Int) : ∀ (p z : List Int) (k : Nat), q.length < k → (p ++ q).length ≤ 9223372036854775807 → z.length = q.length → laws_toByteS.l0 k (p ++ q) (p ++ z) (p.length : Int) = some (p ++ q) := by
  induction q with
  | nil =>
    intro p z k hk _ hz
    obtain ⟨k, rfl⟩ : ∃ m, k = m + 1 := ⟨k - 1, by simp at hk; omega⟩
    obtain rfl : z = [] := List.length_eq_zero_iff.mp (by simpa using hz)
    simp only [laws_toByteS.l0]
    rw [if_neg (len_end p)]
  | cons s q ih =>
    intro p z k hk hl hz
    obtain ⟨k, rfl⟩ : ∃ m, k = m + 1 := ⟨k - 1, by simp at hk; omega⟩
    obtain ⟨y, z, rfl⟩ : ∃ y z', z = y :: z' := by cases z with | nil => simp at hz | cons y z => exact ⟨y, z, rfl⟩
    simp only [laws_toByteS.l0]
    rw [if_pos (len_mid p s q), if_pos (nn _), if_pos (len_mid p y z), rd_mid, set_mid, wi (m := (p ++ s :: q).length) (by simp <;> omega) hl]
    have := ih (p ++ [s]) z k (by simp at hk; omega) (by simpa using hl) (by simpa using hz)
    simpa using this
theorem toB_f (l : List Int) (k : Nat) (hk : l.length < k) (hl : l.length ≤ 1048576) : laws_toByteS.f k l = some l := by
  unfold laws_toByteS.f
  rw [if_pos (nn _), if_pos (by simp <;> omega)]
  have := toB_l0 l [] (List.replicate l.length 0) k hk (by simp <;> omega) (by simp)
  simpa using this
theorem eqB_l0 (q : List Int) : ∀ (p : List Int) (k : Nat), q.length < k → (p ++ q).length ≤ 9223372036854775807 → laws_eqByteS.l0 k (p ++ q) (p ++ q) (p.length : Int) = some true := by
  induction q with
  | nil =>
    intro p k hk _
    obtain ⟨k, rfl⟩ : ∃ m, k = m + 1 := ⟨k - 1, by simp at hk; omega⟩
    simp only [laws_eqByteS.l0]
    rw [if_neg (len_end p)]
  | cons s q ih =>
    intro p k hk hl
    obtain ⟨k, rfl⟩ : ∃ m, k = m + 1 := ⟨k - 1, by simp at hk; omega⟩
    simp only [laws_eqByteS.l0]
    rw [if_pos (len_mid p s q), if_pos (nn _), if_pos (len_mid p s q), if_pos trivial, wi (m := (p ++ s :: q).length) (by simp <;> omega) hl]
    have := ih (p ++ [s]) k (by simp at hk; omega) (by simpa using hl)
    simpa using this
theorem eqB_f (l : List Int) (k : Nat) (hk : l.length < k) (hl : l.length ≤ 1048576) : laws_eqByteS.f k l l = some true := by
  unfold laws_eqByteS.f
  rw [if_pos rfl]
  simpa using eqB_l0 l [] k hk (by simp <;> omega)
theorem j0_same (k : Nat) (x : Bool) (a b c : Int) (s : ByteArray) (n : Int) (l : List Int) (hk : 0 < k) (h : c = 1 ∨ c = 2 ∨ c = 3 ∨ c = 4 ∨ x = true) : ∃ r, impl_RecOk.j0 k x a b c s n l = some r ∧ spec_RecOk.j0 k x a b c s n l = some r := by
  obtain ⟨k, rfl⟩ : ∃ m, k = m + 1 := ⟨k - 1, by omega⟩
  simp only [impl_RecOk.j0, spec_RecOk.j0, inR_f, l1In_f, Option.bind_some]
  cases x
  · have h : c = 1 ∨ c = 2 ∨ c = 3 ∨ c = 4 := by simpa using h
    by_cases hh : 0 ≤ n ∧ n ≤ 1000000000 <;> by_cases h0 : n = 0 <;> rcases h with h | h | h | h <;> subst h <;>
      simp only [hh, h0, Bool.false_eq_true, if_false, if_true, Int.reduceEq, decide_eq_true_eq] <;> exact ⟨_, rfl, rfl⟩
  · exact ⟨false, by simp, by simp⟩
theorem ok_f (k : Nat) (a b c : Int) (s : ByteArray) (n : Int) (l : List Int) (hs : s.size ≤ 9223372036854775807) (hk : s.size < k) : ∃ r, impl_RecOk.f k a b c s n l = some r ∧ spec_RecOk.f k a b c s n l = some r := by
  obtain ⟨r, hr, hr2⟩ := id_f s k hs hk
  unfold impl_RecOk.f spec_RecOk.f impl_isEpoch.f
  simp only [inR_f, l1In_f, Option.bind_some, hr, hr2, decide_eq_true_eq]
  by_cases ca : 0 ≤ a ∧ a ≤ 10000
  · by_cases cb : 0 ≤ b ∧ b ≤ 199
    · simp only [ca, cb, and_self, if_true]
      by_cases cc : 1 ≤ c ∧ c ≤ 4
      · simp only [cc, and_self, if_true]
        exact j0_same k _ a b c s n l (by omega) (by omega)
      · simp only [cc, if_false]
        obtain ⟨k, rfl⟩ : ∃ m, k = m + 1 := ⟨k - 1, by omega⟩
        refine ⟨false, by simp [impl_RecOk.j0], ?_⟩
        simp only [spec_RecOk.j0, l1In_f, Option.bind_some]
        rw [if_neg (show ¬ c = 1 by omega), if_neg (show ¬ c = 2 by omega), if_neg (show ¬ c = 3 by omega), if_neg (show ¬ c = 4 by omega)]
        cases r <;> simp
    · simp only [ca, cb, and_self, if_true, if_false]
      exact j0_same k _ a b c s n l (by omega) (by simp)
  · simp only [ca, if_false]
    exact j0_same k _ a b c s n l (by omega) (by simp)
theorem FnExactRecOk : laws_FnExactRecOk.Pure := by
  intro a b c s n l ha hb hc hs hn hl
  refine ⟨2000000, ?_⟩
  generalize hk : 2000000 = k
  unfold laws_FnExactRecOk.f laws_szRec.f laws_szByteS.f
  have hs' : s.size ≤ 9223372036854775807 := by simpa [bdStr] using hs
  have hl' : l.length ≤ 9223372036854775807 := hl.1
  rw [w64 (by omega) (by omega)]
  by_cases c1 : (1048576 : Int) - (s.size : Int) < 0
  · rw [if_pos c1]; simp
  · rw [if_neg c1, w64 (by omega) (by omega)]
    by_cases c2 : (1048576 : Int) - (s.size : Int) - (l.length : Int) < 0
    · rw [if_pos c2]; simp
    · rw [if_neg c2]
      simp only [Option.bind_some]
      rw [if_neg c2]
      simp only [Option.bind_some]
      rw [if_neg c2]
      obtain ⟨r, hr, hr2⟩ := ok_f k a b c s n l hs' (by omega)
      have hT : laws_toRec.f k a b c s n l = some (a, b, c, s, n, l) := by
        unfold laws_toRec.f
        rw [toB_f l k (by omega) (by omega)]; rfl
      have hE : laws_eqRec.f k a b c s n l a b c s n l = some true := by
        unfold laws_eqRec.f
        simp [eqB_f l k (by omega) (by omega)]
      simp [hT, hr, hr2, hE]
end Go.Proofs.Ytadjcmipkbjkiaa.Pure
