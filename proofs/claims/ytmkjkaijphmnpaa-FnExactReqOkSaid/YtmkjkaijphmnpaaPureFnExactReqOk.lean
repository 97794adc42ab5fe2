/- The law FnExactReqOk answers true at every request: the program's ReqOk is the reference's. For every input; no condition. -/
import Derived.Test.YtmkjkaijphmnpaaSFnExactReqOk
namespace Go.Proofs.Ytmkjkaijphmnpaa.Pure
open Go.RowKit Go.Proofs.Ytmkjkaijphmnpaa.QFnExactReqOk Go.Proofs.YtmkjkaijphmnpaaW.PrintWords Go.Proofs.YtmkjkaijphmnpaaW.PrintLast Go.Proofs.YtmkjkaijphmnpaaW.PrintOpen
set_option linter.unusedVariables false
set_option linter.unusedSimpArgs false
theorem w64 {x : Int} (h0 : -9223372036854775808 ≤ x) (h1 : x ≤ 9223372036854775807) : wrap64 x = x := by unfold wrap64; omega
theorem wi {n m : Nat} (h : n < m) (hm : m ≤ 9223372036854775807) : wrap64 ((n : Int) + 1) = ((n + 1 : Nat) : Int) := by unfold wrap64; omega
theorem rdOf_mid {α : Type} (d : α) (p : List α) (s : α) (q : List α) : rdOf d (p ++ s :: q) (p.length : Int) = s := by simp [rdOf]
theorem set_mid {α : Type} (p : List α) (s v : α) (q : List α) : (p ++ s :: q).set ((p.length : Int)).toNat v = p ++ v :: q := by simp
theorem len_mid {α : Type} (p : List α) (s : α) (q : List α) : (p.length : Int) < ((p ++ s :: q).length : Int) := by simp; omega
theorem len_end {α : Type} (p : List α) : ¬ (p.length : Int) < ((p ++ []).length : Int) := by simp
theorem nn (n : Nat) : 0 ≤ (n : Int) := by omega
theorem rdOf_at {α : Type} (d : α) {p : List α} {s : α} {q : List α} {n : Nat} (h : p.length = n) : rdOf d (p ++ s :: q) (n : Int) = s := by subst h; exact rdOf_mid d p s q
theorem set_at {α : Type} {p : List α} {s v : α} {q : List α} {n : Nat} (h : p.length = n) : (p ++ s :: q).set ((n : Int)).toNat v = p ++ v :: q := by subst h; exact set_mid p s v q
theorem lt_at {α : Type} {p : List α} {s : α} {q : List α} {n : Nat} (h : p.length = n) : (n : Int) < ((p ++ s :: q).length : Int) := by subst h; exact len_mid p s q
theorem end_at {α : Type} {p : List α} {n : Nat} (h : p.length = n) : ¬ (n : Int) < ((p ++ []).length : Int) := by subst h; exact len_end p
theorem len_same {α : Type} {p p' q q' : List α} (h : p.length = p'.length) (h2 : q.length = q'.length) : (p ++ q).length = (p' ++ q').length := by simp [h, h2]
theorem rd_mid (p : List Int) (s : Int) (q : List Int) : rd (p ++ s :: q) (p.length : Int) = s := by simp [rd]
theorem rd_at {p : List Int} {s : Int} {q : List Int} {n : Nat} (h : p.length = n) : rd (p ++ s :: q) (n : Int) = s := by subst h; exact rd_mid p s q
theorem inR_f (a b c : Int) : impl_inRange.f a b c = some (decide (b ≤ a ∧ a ≤ c)) := by
  unfold impl_inRange.f
  by_cases h : a ≥ b
  · rw [if_pos h]; simp [show b ≤ a from h]
  · rw [if_neg h]; simp [show ¬ b ≤ a from h]
theorem l1In_f (a b c : Int) : spec_l1In.f a b c = some (decide (b ≤ a ∧ a ≤ c)) := by
  unfold spec_l1In.f
  by_cases h : a ≥ b
  · rw [if_pos h]; simp [show b ≤ a from h]
  · rw [if_neg h]; simp [show ¬ b ≤ a from h]
theorem bt_lo (s : ByteArray) (i : Int) : 0 ≤ bt s i := by unfold bt; split <;> omega
theorem bt_hi (s : ByteArray) (i : Int) : bt s i ≤ 255 := by
  unfold bt
  split
  · have := (s[i.toNat]).toNat_lt; omega
  · omega
theorem id_l0 (s : ByteArray) (d : Nat) : ∀ (n k : Nat), n + d = s.size → s.size ≤ 9223372036854775807 → d < k → ∃ r, impl_idOk.l0 k s (n : Int) = some r ∧ spec_l11Id.l0 k s (n : Int) = some r := by
  induction d with
  | zero =>
    intro n k hn hs hk
    obtain ⟨k, rfl⟩ : ∃ m, k = m + 1 := ⟨k - 1, by omega⟩
    simp only [impl_idOk.l0, spec_l11Id.l0]
    rw [if_neg (by omega), if_neg (by omega), inR_f, l1In_f]
    exact ⟨_, rfl, rfl⟩
  | succ d ih =>
    intro n k hn hs hk
    obtain ⟨k, rfl⟩ : ∃ m, k = m + 1 := ⟨k - 1, by omega⟩
    obtain ⟨r, hr, hr2⟩ := ih (n + 1) k (by omega) hs (by omega)
    have h0 := bt_lo s n
    have h1 := bt_hi s n
    simp only [impl_idOk.l0, spec_l11Id.l0]
    have hl : (n : Int) < (s.size : Int) := by omega
    rw [if_pos hl, if_pos (nn n), if_pos hl, if_pos (nn n), w64 (x := bt s n) (by omega) (by omega), wi (m := s.size) (by omega) hs, hr, hr2, l1In_f, l1In_f]
    simp only [Option.bind_some, decide_eq_true_eq]
    by_cases c1 : 97 ≤ bt s n <;> by_cases c2 : bt s n ≤ 122 <;> by_cases c3 : 48 ≤ bt s n <;> by_cases c4 : bt s n ≤ 57 <;> first | omega | (simp [c1, c2, c3, c4])
theorem id_f (s : ByteArray) (k : Nat) (hs : s.size ≤ 9223372036854775807) (hk : s.size < k) : ∃ r, impl_idOk.f k s = some r ∧ spec_l11Id.f k s = some r := by
  unfold impl_idOk.f spec_l11Id.f
  exact id_l0 s s.size 0 k (by omega) hs hk
theorem most_f (k : Nat) (a : Int) (hk : 1 < k) : spec_l11Most.f k a = some (if a = 1 ∨ a = 3 then 1000000000 else if a = 4 then 4294967295 else -1) := by
  obtain ⟨k, rfl⟩ : ∃ m, k = m + 1 := ⟨k - 1, by omega⟩
  unfold spec_l11Most.f
  by_cases c : a = 1
  · rw [if_pos c]; subst c; simp [spec_l11Most.j0]
  · rw [if_neg c]
    by_cases c3 : a = 3
    · subst c3; simp [spec_l11Most.j0]
    · by_cases c4 : a = 4 <;> simp [spec_l11Most.j0, c, c3, c4]
theorem FnExactReqOk : laws_FnExactReqOk.Pure := by
  intro a s b ha hs hb
  refine ⟨2000000, ?_⟩
  generalize hk : 2000000 = k
  unfold laws_FnExactReqOk.f laws_szReq.f
  have hs' : s.size ≤ 9223372036854775807 := by simpa [bdStr] using hs
  rw [w64 (by omega) (by omega)]
  by_cases c : (1048576 : Int) - (s.size : Int) < 0
  · rw [if_pos c]; simp
  · rw [if_neg c]
    simp only [Option.bind_some]
    rw [if_neg c]
    obtain ⟨r, hr, hr2⟩ := id_f s k hs' (by omega)
    obtain ⟨k', rfl⟩ : ∃ m, k = m + 2 := ⟨k - 2, by omega⟩
    have hm := most_f (k' + 1) a (by omega)
    unfold laws_toReq.f spec_ReqOk.f impl_ReqOk.f
    simp only [Option.bind_some, hr, hr2, l1In_f, inR_f, spec_ReqOk.j0, hm, decide_eq_true_eq]
    have hn : ∃ t, impl_numberField.f a = some t ∧ t.2 = (if a = 1 ∨ a = 3 then 1000000000 else if a = 4 then 4294967295 else 0) := by
      unfold impl_numberField.f
      by_cases c1 : a = 1
      · rw [if_pos c1]; exact ⟨_, rfl, by simp [c1]⟩
      · rw [if_neg c1]
        by_cases c3 : a = 3
        · rw [if_pos c3]; exact ⟨_, rfl, by simp [c3]⟩
        · rw [if_neg c3]
          by_cases c4 : a = 4
          · rw [if_pos c4]; exact ⟨_, rfl, by simp [c4]⟩
          · rw [if_neg c4]; exact ⟨_, rfl, by simp [c1, c3, c4]⟩
    obtain ⟨t, ht, ht2⟩ := hn
    simp only [ht, ht2, Option.bind_some]
    by_cases c6 : 1 ≤ a ∧ a ≤ 6
    · rw [if_pos c6, if_pos c6]
      cases r
      · simp
      · simp only [Bool.not_true, Bool.false_eq_true, if_false, if_true]
        by_cases c1 : a = 1 ∨ a = 3
        · simp [c1]
        · by_cases c4 : a = 4
          · simp [c4]
          · simp only [c1, c4, if_false]
            have : (b == 0) = decide (0 ≤ b ∧ b ≤ 0) := by
              by_cases cb : b = 0
              · subst cb; decide
              · have : ¬ (0 ≤ b ∧ b ≤ 0) := by omega
                simp [cb, this]
            simp [this]
    · rw [if_neg c6, if_neg c6]; simp
end Go.Proofs.Ytmkjkaijphmnpaa.Pure
