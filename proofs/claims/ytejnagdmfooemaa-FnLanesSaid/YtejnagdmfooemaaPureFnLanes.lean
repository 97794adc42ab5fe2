/- The law FnLanes answers true at every code: a drawn flow's opened lane closes again to the length it had; a new initial moves each lane alike. For every input; no condition. -/
import Derived.Test.YtejnagdmfooemaaSFnLanes
namespace Go.Proofs.Ytejnagdmfooemaa.Pure
open Go.RowKit Go.Proofs.Ytejnagdmfooemaa.QFnLanes Go.Proofs.YtejnagdmfooemaaW.PrintWords Go.Proofs.YtejnagdmfooemaaW.PrintLast Go.Proofs.YtejnagdmfooemaaW.PrintOpen
set_option linter.unusedVariables false
set_option linter.unusedSimpArgs false
theorem w64 {x : Int} (h0 : -9223372036854775808 ≤ x) (h1 : x ≤ 9223372036854775807) : wrap64 x = x := by unfold wrap64; omega
theorem wi {n m : Nat} (h : n < m) (hm : m ≤ 9223372036854775807) : wrap64 ((n : Int) + 1) = ((n + 1 : Nat) : Int) := by unfold wrap64; omega
theorem rdOf_mid {α : Type} (d : α) (p : List α) (s : α) (q : List α) : rdOf d (p ++ s :: q) (p.length : Int) = s := by simp [rdOf]
theorem set_mid {α : Type} (p : List α) (s v : α) (q : List α) : (p ++ s :: q).set ((p.length : Int)).toNat v = p ++ v :: q := by simp
theorem len_mid {α : Type} (p : List α) (s : α) (q : List α) : (p.length : Int) < ((p ++ s :: q).length : Int) := by simp; omega
theorem len_end {α : Type} (p : List α) : ¬ (p.length : Int) < ((p ++ []).length : Int) := by simp
theorem nn (n : Nat) : 0 ≤ (n : Int) := by omega
theorem rdOf_at {α : Type} (d : α) {p : List α} {s : α} {q : List α} {n : Nat} (h : p.length = n) : rdOf d (p ++ s :: q) (n : Int) = s := by subst h; exact rdOf_mid d p s q
theorem set_at {α : Type} {p : List α} {s v : α} {q : List α} {n : Nat} (h : p.length = n) : (p ++ s :: q).set ((n : Int)).toNat v = p ++ v :: q := by subst h; exact set_mid p s v q
theorem lt_at {α : Type} {p : List α} {s : α} {q : List α} {n : Nat} (h : p.length = n) : (n : Int) < ((p ++ s :: q).length : Int) := by subst h; exact len_mid p s q
theorem end_at {α : Type} {p : List α} {n : Nat} (h : p.length = n) : ¬ (n : Int) < ((p ++ []).length : Int) := by subst h; exact len_end p
theorem len_same {α : Type} {p p' q q' : List α} (h : p.length = p'.length) (h2 : q.length = q'.length) : (p ++ q).length = (p' ++ q').length := by simp [h, h2]
theorem rd_mid (p : List Int) (s : Int) (q : List Int) : rd (p ++ s :: q) (p.length : Int) = s := by simp [rd]
theorem rd_at {p : List Int} {s : Int} {q : List Int} {n : Nat} (h : p.length = n) : rd (p ++ s :: q) (n : Int) = s := by subst h; exact rd_mid p s q
theorem and255 (n : Int) : Go.bits .and .i64 n 255 = n % 256 := by
  have h127 : (BitVec.ofInt 64 255).toNat = 2 ^ 8 - 1 := by decide
  have key : (BitVec.ofInt 64 n &&& BitVec.ofInt 64 255).toNat = (n % ((2 ^ 64 : Nat) : Int)).toNat % 2 ^ 8 := by
    rw [BitVec.toNat_and, BitVec.toNat_ofInt, h127, Nat.and_two_pow_sub_one_eq_mod]
  show IntKind.i64.wrap ((BitVec.ofInt 64 n &&& BitVec.ofInt 64 255).toNat : Nat) = n % 256
  rw [key, IntKind.wrap_i64]
  omega
theorem wi0 {n m : Nat} (h : n < m) (hm : m ≤ 9223372036854775807) : wrap64 ((n : Int) + 1) = ((n + 1 : Nat) : Int) := by unfold wrap64; omega
theorem new_l0 (L : List Int) (hL : L.length ≤ 9223372036854775807) (d : Nat) : ∀ (n k : Nat) (h : Int), n + d = 4000 → d < k → ∃ h', spec_l1New.l0 k L h (n : Int) = some (L, 0, h') := by
  induction d with
  | zero =>
    intro n k h hn hk
    obtain ⟨k, rfl⟩ : ∃ m, k = m + 1 := ⟨k - 1, by omega⟩
    simp only [spec_l1New.l0]
    by_cases c : (n : Int) < (L.length : Int)
    · rw [if_pos c, if_neg (by omega)]; exact ⟨_, rfl⟩
    · rw [if_neg c]; exact ⟨_, rfl⟩
  | succ d ih =>
    intro n k h hn hk
    obtain ⟨k, rfl⟩ : ∃ m, k = m + 1 := ⟨k - 1, by omega⟩
    simp only [spec_l1New.l0]
    by_cases c : (n : Int) < (L.length : Int)
    · rw [if_pos c, if_pos (by omega), if_pos (by omega), wi0 (m := n + 1) (by omega) (by omega)]
      exact ih (n + 1) k _ (by omega) (by omega)
    · rw [if_neg c]; exact ⟨_, rfl⟩
theorem new_f (L : List Int) (hL : L.length ≤ 9223372036854775807) (k : Nat) (hk : 4001 < k) : ∃ h, spec_l1New.f k L = some (L, 0, h) := by
  unfold spec_l1New.f
  exact new_l0 L hL 4000 0 k _ (by omega) (by omega)
def St (L : List Int) (i : Int) : Prop := 0 ≤ i ∧ i ≤ (L.length : Int) ∧ (L.length : Int) ≤ 9223372036854775807
theorem byte_f {L : List Int} {i : Int} (h : Int) (hs : St L i) : ∃ x i' h', spec_l1Byte.f L i h = some (x, i', h') ∧ 0 ≤ x ∧ x ≤ 255 ∧ St L i' := by
  obtain ⟨h0, h1, h2⟩ := hs
  unfold spec_l1Byte.f
  by_cases c : i < (L.length : Int)
  · rw [if_pos c, if_pos h0]
    refine ⟨_, _, _, rfl, ?_, ?_, ?_, ?_, h2⟩
    · rw [and255]; omega
    · rw [and255]; omega
    · unfold wrap64; omega
    · unfold wrap64; omega
  · rw [if_neg c]
    refine ⟨_, _, _, rfl, ?_, ?_, h0, h1, h2⟩
    · rw [and255]; omega
    · rw [and255]; omega
theorem below_f {L : List Int} {i : Int} (h n : Int) (hs : St L i) : ∃ x i' h', spec_l1Below.f L i h n = some (x, i', h') ∧ 0 ≤ x ∧ (0 < n → x < n) ∧ (n ≤ 0 → x = 0) ∧ St L i' := by
  unfold spec_l1Below.f
  by_cases c : n ≤ 0
  · rw [if_pos c]
    exact ⟨0, i, h, rfl, by omega, fun q => by omega, fun _ => rfl, hs⟩
  · rw [if_neg c]
    by_cases c2 : n ≤ 256
    · rw [if_pos c2]
      obtain ⟨x, i', h', e, a, b, s⟩ := byte_f h hs
      rw [e]
      simp only [Option.bind_some]
      rw [if_neg (by omega)]
      refine ⟨_, _, _, rfl, Int.tmod_nonneg _ a, fun _ => Int.tmod_lt_of_pos _ (by omega), fun q => by omega, s⟩
    · rw [if_neg c2]
      obtain ⟨x, i1, h1, e1, a1, b1, s1⟩ := byte_f h hs
      rw [e1]
      simp only [Option.bind_some]
      obtain ⟨y, i2, h2, e2, a2, b2, s2⟩ := byte_f h1 s1
      rw [e2]
      simp only [Option.bind_some]
      obtain ⟨z, i3, h3, e3, a3, b3, s3⟩ := byte_f h2 s2
      rw [e3]
      simp only [Option.bind_some]
      rw [if_neg (by omega)]
      refine ⟨_, _, _, rfl, Int.tmod_nonneg _ ?_, fun _ => Int.tmod_lt_of_pos _ (by omega), fun q => by omega, s3⟩
      unfold wrap64
      omega
theorem int_f {L : List Int} {i : Int} (h : Int) (l : List Int) (hs : St L i) (hl : 0 < l.length) : ∃ x i' h', spec_l1Int.f L i h l = some (x, i', h') ∧ x ∈ l ∧ St L i' := by
  unfold spec_l1Int.f
  obtain ⟨x, i', h', e, a, b, _, s⟩ := below_f h (l.length : Int) hs
  have := b (by omega)
  rw [e]
  simp only [Option.bind_some]
  rw [if_pos a, if_pos this]
  refine ⟨_, _, _, rfl, ?_, s⟩
  unfold rd
  rw [List.getD_eq_getElem?_getD, List.getElem?_eq_getElem (show x.toNat < l.length by omega)]
  exact List.getElem_mem _
theorem inR_f (a b c : Int) : impl_inRange.f a b c = some (decide (b ≤ a ∧ a ≤ c)) := by
  unfold impl_inRange.f
  by_cases h : a ≥ b
  · rw [if_pos h]; simp [show b ≤ a from h]
  · rw [if_neg h]; simp [show ¬ b ≤ a from h]
theorem l1In_f (a b c : Int) : spec_l1In.f a b c = some (decide (b ≤ a ∧ a ≤ c)) := by
  unfold spec_l1In.f
  by_cases h : a ≥ b
  · rw [if_pos h]; simp [show b ≤ a from h]
  · rw [if_neg h]; simp [show ¬ b ≤ a from h]
theorem rdS_mid (p : List S48) (s : S48) (q : List S48) : rd_T48 (p ++ s :: q) (p.length : Int) = s := by simp [rd_T48]
theorem rdS_at {p : List S48} {s : S48} {q : List S48} {n : Nat} (h : p.length = n) : rd_T48 (p ++ s :: q) (n : Int) = s := by subst h; exact rdS_mid p s q
def okW (n : Int) : Bool := decide (0 ≤ n ∧ n ≤ 2147483647)
def okLeft (n : Int) : Bool := decide (-2147483647 ≤ n ∧ n ≤ 2147483647)
def okLanes (prev : Int) : List S48 → Bool
  | [] => true
  | x :: l => decide (prev < x.f0) && (okLeft x.f1 && okLanes x.f0 l)
def okF (a b : Int) (l : List S48) : Bool := okLanes 0 l && (okW a && (okW b && decide (l.length ≤ 100)))
def lastId (p : List S48) : Int := match p.getLast? with | some x => x.f0 | none => 0
theorem lastId_snoc (p : List S48) (x : S48) : lastId (p ++ [x]) = x.f0 := by simp [lastId]
theorem sOk_l0 (a b : Int) (q : List S48) : ∀ (p : List S48) (n k : Nat), p.length = n → 2 * q.length < k → (p ++ q).length ≤ 400001 → 0 ≤ lastId p → (p = [] ∨ 1 ≤ lastId p) → spec_FlowOk.l0 k (n : Int) a b (p ++ q) = some (okLanes (lastId p) q && (okW a && (okW b && decide ((p ++ q).length ≤ 100)))) := by
  induction q with
  | nil =>
    intro p n k hp hk hl hi _
    obtain ⟨k, rfl⟩ : ∃ m, k = m + 1 := ⟨k - 1, by omega⟩
    simp only [spec_FlowOk.l0]
    rw [if_neg (end_at hp), l1In_f, l1In_f]
    simp only [Option.bind_some, okLanes, Bool.true_and]
    by_cases c1 : okW a = true
    · rw [if_pos (by simpa [okW] using c1)]
      by_cases c2 : okW b = true
      · rw [if_pos (by simpa [okW] using c2)]
        simp [c1, c2]; omega
      · rw [if_neg (by simpa [okW] using c2)]; simp [c1, c2]
    · rw [if_neg (by simpa [okW] using c1)]; simp [c1]
  | cons x q ih =>
    intro p n k hp hk hl hi hi1
    simp only [List.length_cons] at hk
    obtain ⟨k, rfl⟩ : ∃ m, k = m + 2 := ⟨k - 2, by omega⟩
    have hl2 := hl
    simp only [List.length_append, List.length_cons] at hl2
    simp only [spec_FlowOk.l0, spec_FlowOk.j1]
    rw [if_pos (lt_at hp), if_pos (nn _), rdS_at hp, l1In_f]
    simp only [Option.bind_some, okLanes]
    by_cases c1 : x.f0 < 1
    · rw [if_pos c1]
      have : ¬ lastId p < x.f0 := by omega
      simp [this]
    · rw [if_neg c1]
      by_cases c2 : okLeft x.f1 = true
      · rw [if_pos (by simpa [okLeft] using c2)]
        have hnext : spec_FlowOk.l0 k (wrap64 ((n : Int) + 1)) a b (p ++ x :: q) = some (okLanes x.f0 q && (okW a && (okW b && decide ((p ++ x :: q).length ≤ 100)))) := by
          rw [wi (m := n + 1) (by omega) (by omega)]
          have := ih (p ++ [x]) (n + 1) k (by simp [hp]) (by omega) (by simpa using hl) (by rw [lastId_snoc]; omega) (Or.inr (by rw [lastId_snoc]; omega))
          rw [lastId_snoc] at this
          simpa using this
        by_cases c3 : (n : Int) > 0
        · rw [if_pos c3, w64 (x := (n : Int) - 1) (by omega) (by omega), if_pos (by omega), if_pos (by simp; omega)]
          obtain ⟨p', y, rfl⟩ : ∃ p' y, p = p' ++ [y] := by
            rcases List.eq_nil_or_concat p with h | ⟨p', y, h⟩
            · subst h; simp at hp; omega
            · exact ⟨p', y, by simpa using h⟩
          have hp' : p'.length = n - 1 := by simp at hp; omega
          have hrd : rd_T48 (p' ++ [y] ++ x :: q) ((n : Int) - 1) = y := by
            rw [show (n : Int) - 1 = ((n - 1 : Nat) : Int) by omega, List.append_assoc]
            exact rdS_at hp'
          rw [hrd, lastId_snoc]
          by_cases c4 : y.f0 ≥ x.f0
          · rw [if_pos (by simpa using c4)]
            have : ¬ y.f0 < x.f0 := by omega
            simp [this]
          · rw [if_neg (by simpa using c4), hnext]
            have : y.f0 < x.f0 := by omega
            simp [this, c2]
        · rw [if_neg c3, if_neg (by simp), hnext]
          have hp0 : p = [] := List.length_eq_zero_iff.mp (by omega)
          subst hp0
          have h1 : lastId [] < x.f0 := by simp [lastId]; omega
          simp [h1, c2]
      · rw [if_neg (by simpa [okLeft] using c2)]
        simp [c2]
theorem sOk_f (a b : Int) (l : List S48) (k : Nat) (hk : 1048580 < k) (hl : l.length ≤ 400001) : spec_FlowOk.f k a b l = some (okF a b l) := by
  unfold spec_FlowOk.f okF
  have := sOk_l0 a b l [] 0 k rfl (by omega) (by simpa using hl) (by simp [lastId]) (Or.inl rfl)
  simpa [lastId] using this
theorem isW_f (n : Int) : impl_isWindow.f n = some (okW n) := by
  unfold impl_isWindow.f; rw [inR_f]; rfl
theorem iOk_l0 (a b : Int) (q : List S48) : ∀ (p : List S48) (n k : Nat), p.length = n → 2 * q.length < k → (p ++ q).length ≤ 400001 → 0 ≤ lastId p → (p = [] ∨ 1 ≤ lastId p) → impl_FlowOk.l0 k (p ++ q) ((p ++ q).length : Int) (n : Int) a b (p ++ q) = some (okLanes (lastId p) q && (okW a && (okW b && decide ((p ++ q).length ≤ 100)))) := by
  induction q with
  | nil =>
    intro p n k hp hk hl hi _
    obtain ⟨k, rfl⟩ : ∃ m, k = m + 1 := ⟨k - 1, by omega⟩
    simp only [impl_FlowOk.l0]
    rw [if_neg (end_at hp), isW_f, isW_f]
    simp only [Option.bind_some, okLanes, Bool.true_and]
    by_cases c1 : okW a = true
    · rw [if_pos c1]
      by_cases c2 : okW b = true
      · rw [if_pos c2]
        simp [c1, c2]; omega
      · rw [if_neg c2]; simp [c1, c2]
    · rw [if_neg c1]; simp [c1]
  | cons x q ih =>
    intro p n k hp hk hl hi hi1
    simp only [List.length_cons] at hk
    obtain ⟨k, rfl⟩ : ∃ m, k = m + 2 := ⟨k - 2, by omega⟩
    have hl2 := hl
    simp only [List.length_append, List.length_cons] at hl2
    have hN : ((p ++ x :: q).length : Int) = (((p ++ [x]) ++ q).length : Int) := by simp
    have hnext : okLeft x.f1 = true → ¬ x.f0 < 1 → impl_FlowOk.l0 k (p ++ x :: q) ((p ++ x :: q).length : Int) (wrap64 ((n : Int) + 1)) a b (p ++ x :: q) = some (okLanes x.f0 q && (okW a && (okW b && decide ((p ++ x :: q).length ≤ 100)))) := by
      intro h1 h2
      rw [wi (m := n + 1) (by omega) (by omega)]
      have := ih (p ++ [x]) (n + 1) k (by simp [hp]) (by omega) (by simpa using hl) (by rw [lastId_snoc]; omega) (Or.inr (by rw [lastId_snoc]; omega))
      rw [lastId_snoc] at this
      simpa using this
    simp only [impl_FlowOk.l0, impl_FlowOk.j1]
    rw [if_pos (lt_at hp), if_pos (nn _), if_pos (lt_at hp), rdS_at hp, inR_f]
    simp only [Option.bind_some, okLanes]
    by_cases c1 : x.f0 < 1
    · rw [if_pos c1]
      have : ¬ lastId p < x.f0 := by omega
      simp [this]
    · rw [if_neg c1]
      by_cases c3 : (n : Int) > 0
      · rw [if_pos c3, w64 (x := (n : Int) - 1) (by omega) (by omega), if_pos (by omega), if_pos (by simp; omega)]
        obtain ⟨p', y, rfl⟩ : ∃ p' y, p = p' ++ [y] := by
          rcases List.eq_nil_or_concat p with h | ⟨p', y, h⟩
          · subst h; simp at hp; omega
          · exact ⟨p', y, by simpa using h⟩
        have hp' : p'.length = n - 1 := by simp at hp; omega
        have hrd : rd_T48 (p' ++ [y] ++ x :: q) ((n : Int) - 1) = y := by
          rw [show (n : Int) - 1 = ((n - 1 : Nat) : Int) by omega, List.append_assoc]
          exact rdS_at hp'
        rw [hrd, lastId_snoc]
        by_cases c4 : x.f0 ≤ y.f0
        · rw [if_pos c4]
          have : ¬ y.f0 < x.f0 := by omega
          simp [this]
        · rw [if_neg c4]
          have h4 : y.f0 < x.f0 := by omega
          by_cases c2 : okLeft x.f1 = true
          · rw [if_neg (by simpa [okLeft] using c2), hnext c2 c1]
            simp [h4, c2]
          · rw [if_pos (by simp only [okLeft, decide_eq_true_eq] at c2; simp; omega)]; simp [c2]
      · rw [if_neg c3]
        have hp0 : p = [] := List.length_eq_zero_iff.mp (by omega)
        subst hp0
        have h1 : lastId [] < x.f0 := by simp [lastId]; omega
        by_cases c2 : okLeft x.f1 = true
        · rw [if_neg (by simpa [okLeft] using c2), hnext c2 c1]
          simp [h1, c2]
        · rw [if_pos (by simp only [okLeft, decide_eq_true_eq] at c2; simp; omega)]; simp [c2]
theorem iOk_f (a b : Int) (l : List S48) (k : Nat) (hk : 1048580 < k) (hl : l.length ≤ 400001) : impl_FlowOk.f k a b l = some (okF a b l) := by
  unfold impl_FlowOk.f okF
  have := iOk_l0 a b l [] 0 k rfl (by omega) (by simpa using hl) (by simp [lastId]) (Or.inl rfl)
  simpa [lastId] using this
def atL (id : Int) : Nat → List S48 → Int
  | _, [] => -1
  | n, x :: l => if x.f0 = id then (n : Int) else atL id (n + 1) l
theorem atL_spec (id : Int) : ∀ (l : List S48) (n : Nat), (atL id n l = -1 ∧ ∀ x ∈ l, x.f0 ≠ id) ∨ ∃ p x q, l = p ++ x :: q ∧ x.f0 = id ∧ (∀ y ∈ p, y.f0 ≠ id) ∧ atL id n l = ((n + p.length : Nat) : Int)
  | [], n => Or.inl ⟨rfl, by simp⟩
  | x :: l, n => by
    by_cases c : x.f0 = id
    · refine Or.inr ⟨[], x, l, rfl, c, by simp, ?_⟩
      simp [atL, c]
    · rcases atL_spec id l (n + 1) with ⟨h1, h2⟩ | ⟨p, y, q, h1, h2, h3, h4⟩
      · refine Or.inl ⟨by simp [atL, c, h1], ?_⟩
        intro y hy
        rcases List.mem_cons.1 hy with rfl | hy
        · exact c
        · exact h2 y hy
      · refine Or.inr ⟨x :: p, y, q, by rw [h1]; rfl, h2, ?_, ?_⟩
        · intro z hz
          rcases List.mem_cons.1 hz with rfl | hz
          · exact c
          · exact h3 z hz
        · simp only [atL]
          rw [if_neg c, h4]
          simp; omega
def roomL (a id : Int) : List S48 → Int
  | [] => 0
  | x :: l => if x.f0 = id then max (min a x.f1) 0 else roomL a id l
theorem roomL_none (a id : Int) : ∀ l : List S48, (∀ x ∈ l, x.f0 ≠ id) → roomL a id l = 0
  | [], _ => rfl
  | x :: l, h => by
    simp only [roomL]
    rw [if_neg (h x (by simp))]
    exact roomL_none a id l (fun y hy => h y (by simp [hy]))
theorem roomL_at (a id : Int) (x : S48) (q : List S48) (hx : x.f0 = id) : ∀ p : List S48, (∀ y ∈ p, y.f0 ≠ id) → roomL a id (p ++ x :: q) = max (min a x.f1) 0
  | [], _ => by simp [roomL, hx]
  | y :: p, h => by
    simp only [List.cons_append, roomL]
    rw [if_neg (h y (by simp))]
    exact roomL_at a id x q hx p (fun z hz => h z (by simp [hz]))
theorem sAt_l0 (a b id : Int) (q : List S48) : ∀ (p : List S48) (n k : Nat), p.length = n → q.length < k → (p ++ q).length ≤ 400001 → spec_l10At.l0 k id (n : Int) a b (p ++ q) = some (atL id n q) := by
  induction q with
  | nil =>
    intro p n k hp hk hl
    obtain ⟨k, rfl⟩ : ∃ m, k = m + 1 := ⟨k - 1, by omega⟩
    simp only [spec_l10At.l0]
    rw [if_neg (end_at hp)]
    rfl
  | cons x q ih =>
    intro p n k hp hk hl
    obtain ⟨k, rfl⟩ : ∃ m, k = m + 1 := ⟨k - 1, by omega⟩
    simp only [List.length_cons] at hk
    have hl2 := hl
    simp only [List.length_append, List.length_cons] at hl2
    simp only [spec_l10At.l0, atL]
    rw [if_pos (lt_at hp), if_pos (nn _), rdS_at hp]
    by_cases c : x.f0 = id
    · rw [if_pos c, if_pos c]
    · rw [if_neg c, if_neg c, wi (m := n + 1) (by omega) (by omega)]
      have := ih (p ++ [x]) (n + 1) k (by simp [hp]) (by omega) (by simpa using hl)
      simpa using this
theorem sAt_f (a b id : Int) (l : List S48) (k : Nat) (hk : 1048580 < k) (hl : l.length ≤ 400001) : spec_l10At.f k a b l id = some (atL id 0 l) := by
  unfold spec_l10At.f
  have := sAt_l0 a b id l [] 0 k rfl (by omega) (by simpa using hl)
  simpa using this
theorem sRoom_f (a b : Int) (l : List S48) (id : Int) (k : Nat) (hk : 1048580 < k) (hl : l.length ≤ 400001) : spec_RoomOf.f k a b l id = some (roomL a id l) := by
  unfold spec_RoomOf.f
  rw [sAt_f a b id l k hk hl]
  simp only [Option.bind_some]
  rcases atL_spec id l 0 with ⟨h1, h2⟩ | ⟨p, x, q, rfl, hx, hp, h4⟩
  · rw [h1, if_pos (by omega), roomL_none a id l h2]
  · rw [h4, roomL_at a id x q hx p hp]
    simp only [Nat.zero_add]
    rw [if_neg (by omega), if_pos (nn _), if_pos (len_mid p x q), rdS_mid]
    by_cases c : x.f1 < a
    · rw [if_pos c]
      by_cases c2 : x.f1 < 0
      · rw [if_pos c2]; congr 1; omega
      · rw [if_neg c2]; congr 1; omega
    · rw [if_neg c]
      by_cases c2 : a < 0
      · rw [if_pos c2]; congr 1; omega
      · rw [if_neg c2]; congr 1; omega
theorem l10Copy_f (a b : Int) (l : List S48) (hl : l.length ≤ 400001) : spec_l10Copy.f a b l = some (a, b, l) := by
  unfold spec_l10Copy.f
  simp only [Option.bind_some]
  rw [if_pos (by simp; omega)]
  simp
theorem copyF_f (a b : Int) (l : List S48) (hl : l.length ≤ 400001) : impl_copyFlow.f a b l = some (a, b, l) := by
  unfold impl_copyFlow.f slices_Clone_Lane.f
  simp only [Option.bind_some]
  rw [if_pos (by simp; omega)]
  simp
def endsD (a b : Int) (l : List S48) (a' b' : Int) (l' : List S48) (ok : Bool) : Int × Int × List S48 × Bool := if ok = true ∧ okF a b l = true ∧ okF a' b' l' = true then (a', b', l', true) else (a, b, l, false)
theorem ends_f (a b : Int) (l : List S48) (a' b' : Int) (l' : List S48) (ok : Bool) (k : Nat) (hk : 1048580 < k) (hl : l.length ≤ 400001) (hl' : l'.length ≤ 400001) : spec_l10Ends.f k a b l a' b' l' ok = some (endsD a b l a' b' l' ok) := by
  unfold spec_l10Ends.f endsD
  rw [sOk_f a b l k hk hl, sOk_f a' b' l' k hk hl']
  simp only [Option.bind_some]
  obtain ⟨k, rfl⟩ : ∃ m, k = m + 1 := ⟨k - 1, by omega⟩
  simp only [spec_l10Ends.j0]
  rw [l10Copy_f a b l hl]
  simp only [Option.bind_some]
  by_cases c1 : ok = true
  · rw [if_pos c1]
    by_cases c2 : okF a b l = true
    · rw [if_pos c2]
      by_cases c3 : okF a' b' l' = true
      · rw [if_neg (by simp [c3]), if_pos ⟨c1, c2, c3⟩]
      · rw [if_pos (by simpa using c3), if_neg (fun h => c3 h.2.2)]
    · rw [if_neg c2, if_pos trivial, if_neg (fun h => c2 h.2.1)]
  · rw [if_neg c1, if_pos trivial, if_neg (fun h => c1 h.1)]
theorem okLanes_map (f : S48 → S48) (hf : ∀ x, (f x).f0 = x.f0) : ∀ (l : List S48) (p : Int), okLanes p l = true → okLanes p (l.map f) = l.all (fun x => okLeft (f x).f1)
  | [], _, _ => rfl
  | x :: l, p, h => by
    simp only [okLanes, Bool.and_eq_true, decide_eq_true_eq] at h
    have ih := okLanes_map f hf l x.f0 h.2.2
    simp only [List.map_cons, okLanes, hf, List.all_cons, ih, h.1, decide_true, Bool.true_and]
theorem okLanes_left : ∀ (l : List S48) (p : Int), okLanes p l = true → ∀ x ∈ l, okLeft x.f1 = true
  | [], _, _, x, h => by simp at h
  | y :: l, p, h, x, hx => by
    simp only [okLanes, Bool.and_eq_true, decide_eq_true_eq] at h
    rcases List.mem_cons.1 hx with rfl | hx
    · exact h.2.1
    · exact okLanes_left l y.f0 h.2.2 x hx
theorem okF_parts {a b : Int} {l : List S48} (h : okF a b l = true) : okLanes 0 l = true ∧ okW a = true ∧ okW b = true ∧ l.length ≤ 100 := by
  simp only [okF, Bool.and_eq_true, decide_eq_true_eq] at h
  exact ⟨h.1, h.2.1, h.2.2.1, h.2.2.2⟩
def moved (d : Int) (x : S48) : S48 := ⟨x.f0, x.f1 + d⟩
def newD (a b : Int) (l : List S48) (n : Int) : Int × Int × List S48 × Bool :=
  if okW n = true ∧ okF a b l = true ∧ (l.all fun x => okLeft (moved (n - b) x).f1) = true then (a, n, l.map (moved (n - b)), true) else (a, b, l, false)
theorem newD_len (a b : Int) (l : List S48) (n : Int) : (newD a b l n).2.2.1.length = l.length := by
  unfold newD; split <;> simp
def movedW (n b : Int) (x : S48) : S48 := ⟨x.f0, wrap64 (wrap64 (x.f1 + n) - b)⟩
theorem sNew_l0 (a b n : Int) (l : List S48) (hl : l.length ≤ 400001) (hn : okW n = true) (q : List S48) : ∀ (p : List S48) (i k : Nat), p.length = i → q.length + 1048590 < k → p.length + q.length ≤ 400001 → spec_NewInit.l0 k n (i : Int) a b l a n (p ++ q) = some (endsD a b l a n (p ++ q.map (movedW n b)) true) := by
  induction q with
  | nil =>
    intro p i k hp hk hq
    obtain ⟨k, rfl⟩ : ∃ m, k = m + 1 := ⟨k - 1, by omega⟩
    simp only [List.length_nil] at hk hq
    simp only [spec_NewInit.l0]
    rw [if_neg (end_at hp), ends_f a b l a n (p ++ []) true k (by omega) hl (by simp <;> omega)]
    rfl
  | cons x q ih =>
    intro p i k hp hk hq
    obtain ⟨k, rfl⟩ : ∃ m, k = m + 1 := ⟨k - 1, by omega⟩
    simp only [List.length_cons] at hk hq
    simp only [spec_NewInit.l0]
    rw [if_pos (lt_at hp), l1In_f]
    simp only [Option.bind_some]
    rw [if_pos (show decide (0 ≤ n ∧ n ≤ 2147483647) = true from hn), if_pos (nn _), rdS_at hp, set_at hp, wi (m := i + 1) (by omega) (by omega)]
    have := ih (p ++ [movedW n b x]) (i + 1) k (by simp [hp]) (by omega) (by simp; omega)
    simpa [movedW] using this
theorem sNew_f (a b : Int) (l : List S48) (n : Int) (k : Nat) (hk : 2097180 < k) (hl : l.length ≤ 400001) : spec_NewInit.f k a b l n = some (newD a b l n) := by
  unfold spec_NewInit.f
  rw [l10Copy_f a b l hl]
  simp only [Option.bind_some]
  by_cases hn : okW n = true
  · have := sNew_l0 a b n l hl hn l [] 0 k rfl (by omega) (by simpa using hl)
    simp only [List.nil_append] at this
    rw [show ((0 : Int)) = ((0 : Nat) : Int) from rfl, this]
    congr 1
    unfold endsD newD
    by_cases h1 : okF a b l = true
    · obtain ⟨h2, h3, h4, h5⟩ := okF_parts h1
      have hmap : l.map (movedW n b) = l.map (moved (n - b)) := by
        apply List.map_congr_left
        intro x hx
        have h6 := okLanes_left l 0 h2 x hx
        simp only [okLeft, okW, decide_eq_true_eq] at h6 hn h4
        unfold movedW moved
        rw [w64 (x := x.f1 + n) (by omega) (by omega), w64 (by omega) (by omega)]
        congr 1
        omega
      have h7 := okLanes_map (moved (n - b)) (fun _ => rfl) l 0 h2
      rw [hmap]
      have h8 : okF a n (l.map (moved (n - b))) = (l.all fun x => okLeft (moved (n - b) x).f1) := by
        simp [okF, h7, h3, hn, h5]
      rw [h8]
      simp [h1, hn]
    · rw [if_neg (fun h => h1 h.2.1), if_neg (fun h => h1 h.2.1)]
  · have h9 : newD a b l n = (a, b, l, false) := by unfold newD; rw [if_neg (fun h => hn h.1)]
    have h10 : endsD a b l a n l true = (a, b, l, false) := by
      unfold endsD
      rw [if_neg]
      intro h
      exact hn (okF_parts h.2.2).2.2.1
    rw [h9]
    obtain ⟨k, rfl⟩ : ∃ m, k = m + 1 := ⟨k - 1, by omega⟩
    simp only [spec_NewInit.l0]
    by_cases c : (0 : Int) < (l.length : Int)
    · rw [if_pos c, l1In_f]
      simp only [Option.bind_some]
      rw [if_neg (show ¬ decide (0 ≤ n ∧ n ≤ 2147483647) = true from hn), ends_f a b l a n l true k (by omega) hl hl, h10]; rfl
    · rw [if_neg c, ends_f a b l a n l true k (by omega) hl hl, h10]; rfl
theorem iNew_l0 (a b n : Int) (l : List S48) (hl : l.length ≤ 400001) (hd : -2147483647 ≤ n - b ∧ n - b ≤ 2147483647) (q : List S48) (hq0 : ∀ x ∈ q, okLeft x.f1 = true) : ∀ (p : List S48) (i k : Nat), p.length = i → q.length < k → p.length + q.length ≤ 400001 →
    impl_NewInit.l0 k (n - b) ((p ++ q).length : Int) (i : Int) a b l a n (p ++ q) = some (if (q.all fun x => okLeft (moved (n - b) x).f1) = true then (a, n, p ++ q.map (moved (n - b)), true) else (a, b, l, false)) := by
  induction q with
  | nil =>
    intro p i k hp hk hq
    obtain ⟨k, rfl⟩ : ∃ m, k = m + 1 := ⟨k - 1, by omega⟩
    simp only [impl_NewInit.l0]
    rw [if_neg (end_at hp)]
    simp
  | cons x q ih =>
    intro p i k hp hk hq
    obtain ⟨k, rfl⟩ : ∃ m, k = m + 1 := ⟨k - 1, by omega⟩
    simp only [List.length_cons] at hk hq
    have hx := hq0 x (by simp)
    simp only [okLeft, decide_eq_true_eq] at hx
    simp only [impl_NewInit.l0, Option.bind_some]
    rw [if_pos (lt_at hp), if_pos (nn _), if_pos (lt_at hp), rdS_at hp, set_at hp, rdS_at hp, inR_f, w64 (x := x.f1 + (n - b)) (by omega) (by omega)]
    simp only [Option.bind_some]
    by_cases c : okLeft (moved (n - b) x).f1 = true
    · rw [if_pos (show decide (-2147483647 ≤ x.f1 + (n - b) ∧ x.f1 + (n - b) ≤ 2147483647) = true from c), wi (m := i + 1) (by omega) (by omega)]
      have := ih (fun y hy => hq0 y (by simp [hy])) (p ++ [moved (n - b) x]) (i + 1) k (by simp [hp]) (by omega) (by simp; omega)
      rw [show p ++ x :: q = (p ++ [x]) ++ q by simp, show (p ++ [x] ++ q).length = (p ++ [moved (n - b) x] ++ q).length by simp, show p ++ { f0 := x.f0, f1 := x.f1 + (n - b) } :: q = p ++ [moved (n - b) x] ++ q by simp [moved], this]
      have hall : ((x :: q).all fun x => okLeft (moved (n - b) x).f1) = (okLeft (moved (n - b) x).f1 && q.all fun x => okLeft (moved (n - b) x).f1) := List.all_cons
      by_cases c2 : (q.all fun x => okLeft (moved (n - b) x).f1) = true
      · rw [if_pos c2, if_pos (by rw [hall, c, c2]; rfl)]; simp
      · rw [if_neg c2, if_neg (by rw [hall, c]; simpa using c2)]
    · have hall : ((x :: q).all fun x => okLeft (moved (n - b) x).f1) = (okLeft (moved (n - b) x).f1 && q.all fun x => okLeft (moved (n - b) x).f1) := List.all_cons
      rw [if_neg (show ¬ decide (-2147483647 ≤ x.f1 + (n - b) ∧ x.f1 + (n - b) ≤ 2147483647) = true from c), copyF_f a b l hl, if_neg (by rw [hall]; simp [c])]
      rfl
theorem iNew_f (a b : Int) (l : List S48) (n : Int) (k : Nat) (hk : 2097180 < k) (hl : l.length ≤ 400001) : impl_NewInit.f k a b l n = some (newD a b l n) := by
  unfold impl_NewInit.f
  rw [copyF_f a b l hl, isW_f, iOk_f a b l k (by omega) hl]
  simp only [Option.bind_some]
  obtain ⟨k, rfl⟩ : ∃ m, k = m + 1 := ⟨k - 1, by omega⟩
  by_cases hn : okW n = true
  · rw [if_pos hn]
    by_cases h1 : okF a b l = true
    · obtain ⟨h2, h3, h4, h5⟩ := okF_parts h1
      have hn2 := hn
      simp only [okW, decide_eq_true_eq] at hn2 h4
      simp only [impl_NewInit.j0, h1, Bool.not_true, Bool.false_eq_true, if_false]
      rw [w64 (x := n - b) (by omega) (by omega)]
      have := iNew_l0 a b n l hl (by omega) l (okLanes_left l 0 h2) [] 0 k rfl (by omega) (by simpa using hl)
      simp only [List.nil_append] at this
      rw [show ((0 : Int)) = ((0 : Nat) : Int) from rfl, this]
      unfold newD
      by_cases c : (l.all fun x => okLeft (moved (n - b) x).f1) = true
      · rw [if_pos c, if_pos ⟨hn, h1, c⟩]
      · rw [if_neg c, if_neg (fun h => c h.2.2)]
    · simp only [impl_NewInit.j0, h1, Bool.not_false, if_true]
      unfold newD
      rw [if_neg (fun h => h1 h.2.1)]
  · rw [if_neg hn]
    simp only [impl_NewInit.j0, if_true]
    unfold newD
    rw [if_neg (fun h => hn h.1)]
def lanD (id : Int) : Nat → List S48 → Int × Bool
  | n, [] => ((n : Int), false)
  | n, x :: q => if x.f0 < id then lanD id (n + 1) q else ((n : Int), x.f0 == id)
theorem lane_l0 (a b id : Int) (q : List S48) : ∀ (p : List S48) (n k : Nat), p.length = n → q.length < k → (p ++ q).length ≤ 400001 → impl_Flow_lane.l0 k id (n : Int) a b (p ++ q) = some (lanD id n q) := by
  induction q with
  | nil =>
    intro p n k hp hk hl
    obtain ⟨k, rfl⟩ : ∃ m, k = m + 1 := ⟨k - 1, by omega⟩
    simp only [impl_Flow_lane.l0]
    rw [if_neg (end_at hp)]
    rfl
  | cons x q ih =>
    intro p n k hp hk hl
    obtain ⟨k, rfl⟩ : ∃ m, k = m + 1 := ⟨k - 1, by omega⟩
    simp only [List.length_cons] at hk
    have hl2 := hl
    simp only [List.length_append, List.length_cons] at hl2
    simp only [impl_Flow_lane.l0, lanD]
    rw [if_pos (lt_at hp), if_pos (nn _), rdS_at hp]
    by_cases c : x.f0 < id
    · rw [if_pos c, if_pos c, wi (m := n + 1) (by omega) (by omega)]
      have := ih (p ++ [x]) (n + 1) k (by simp [hp]) (by omega) (by simpa using hl)
      simpa using this
    · rw [if_neg c, if_neg c]
theorem lane_f (a b id : Int) (l : List S48) (k : Nat) (hk : 1048580 < k) (hl : l.length ≤ 400001) : impl_Flow_lane.f k a b l id = some (lanD id 0 l) := by
  unfold impl_Flow_lane.f
  have := lane_l0 a b id l [] 0 k rfl (by omega) (by simpa using hl)
  simpa using this
theorem lanD_none (id : Int) : ∀ (l : List S48) (n : Nat), (∀ x ∈ l, x.f0 ≠ id) → (lanD id n l).2 = false
  | [], _, _ => rfl
  | x :: l, n, h => by
    simp only [lanD]
    split
    · exact lanD_none id l (n + 1) (fun y hy => h y (by simp [hy]))
    · simpa using h x (by simp)
theorem lanD_at (id : Int) (x : S48) (q : List S48) (hx : x.f0 = id) : ∀ (p : List S48) (n : Nat), (∀ y ∈ p, y.f0 < id) → lanD id n (p ++ x :: q) = (((n + p.length : Nat) : Int), true)
  | [], n, _ => by
    simp only [List.nil_append, lanD]
    rw [if_neg (by omega)]
    simp [hx]
  | y :: p, n, h => by
    simp only [List.cons_append, lanD]
    rw [if_pos (h y (by simp)), lanD_at id x q hx p (n + 1) (fun z hz => h z (by simp [hz]))]
    simp; omega
theorem okLanes_mono (q : List S48) {a b : Int} (h : okLanes a q = true) (hab : b ≤ a) : okLanes b q = true := by
  cases q with
  | nil => rfl
  | cons x q =>
    simp only [okLanes, Bool.and_eq_true, decide_eq_true_eq] at h ⊢
    exact ⟨by omega, h.2⟩
theorem okLanes_all (x : S48) : ∀ (q : List S48) (a : Int), okLanes a q = true → ∀ y ∈ q, a < y.f0
  | [], _, _, y, hy => by simp at hy
  | z :: q, a, h, y, hy => by
    simp only [okLanes, Bool.and_eq_true, decide_eq_true_eq] at h
    rcases List.mem_cons.1 hy with rfl | hy
    · exact h.1
    · have := okLanes_all x q z.f0 h.2.2 y hy
      omega
theorem okLanes_lt (x : S48) (q : List S48) : ∀ (p : List S48) (a : Int), okLanes a (p ++ x :: q) = true → ∀ y ∈ p, y.f0 < x.f0
  | [], _, _, y, hy => by simp at hy
  | z :: p, a, h, y, hy => by
    simp only [List.cons_append, okLanes, Bool.and_eq_true, decide_eq_true_eq] at h
    rcases List.mem_cons.1 hy with rfl | hy
    · exact okLanes_all x (p ++ x :: q) y.f0 h.2.2 x (by simp)
    · exact okLanes_lt x q p z.f0 h.2.2 y hy
theorem okLanes_erase (x : S48) (q : List S48) : ∀ (p : List S48) (a : Int), okLanes a (p ++ x :: q) = true → okLanes a (p ++ q) = true
  | [], a, h => by
    simp only [List.nil_append, okLanes, Bool.and_eq_true, decide_eq_true_eq] at h ⊢
    exact okLanes_mono q h.2.2 (by omega)
  | z :: p, a, h => by
    simp only [List.cons_append, okLanes, Bool.and_eq_true, decide_eq_true_eq] at h ⊢
    exact ⟨h.1, h.2.1, okLanes_erase x q p z.f0 h.2.2⟩
theorem okLanes_put (x y : S48) (q : List S48) (h0 : y.f0 = x.f0) (h1 : okLeft y.f1 = true) : ∀ (p : List S48) (a : Int), okLanes a (p ++ x :: q) = true → okLanes a (p ++ y :: q) = true
  | [], a, h => by
    simp only [List.nil_append, okLanes, Bool.and_eq_true, decide_eq_true_eq, h0] at h ⊢
    exact ⟨h.1, h1, h.2.2⟩
  | z :: p, a, h => by
    simp only [List.cons_append, okLanes, Bool.and_eq_true, decide_eq_true_eq] at h ⊢
    exact ⟨h.1, h.2.1, okLanes_put x y q h0 h1 p z.f0 h.2.2⟩
theorem okF_mk {a b : Int} {l : List S48} (h1 : okLanes 0 l = true) (h2 : okW a = true) (h3 : okW b = true) (h4 : l.length ≤ 100) : okF a b l = true := by simp [okF, h1, h2, h3, h4]
/-- What a call comes to where it is right to go on; else the flow as it was. -/
def onlyF (a b : Int) (l : List S48) (ok : Bool) (r : Int × Int × List S48) : Int × Int × List S48 × Bool := if ok = true ∧ okF a b l = true then (r.1, r.2.1, r.2.2, true) else (a, b, l, false)
theorem endsD_not {a b : Int} {l : List S48} (h : ¬ okF a b l = true) (a' b' : Int) (l' : List S48) (ok : Bool) : endsD a b l a' b' l' ok = (a, b, l, false) := by unfold endsD; rw [if_neg (fun z => h z.2.1)]
theorem endsD_yes {a b : Int} {l : List S48} (h : okF a b l = true) {a' b' : Int} {l' : List S48} (h' : okF a' b' l' = true) : endsD a b l a' b' l' true = (a', b', l', true) := by unfold endsD; rw [if_pos ⟨rfl, h, h'⟩]
theorem endsD_false (a b : Int) (l : List S48) (a' b' : Int) (l' : List S48) : endsD a b l a' b' l' false = (a, b, l, false) := by unfold endsD; rw [if_neg (fun z => by cases z.1)]
def closeD (a b id : Int) (l : List S48) : Int × Int × List S48 × Bool := if 0 ≤ atL id 0 l ∧ okF a b l = true then (a, b, l.eraseIdx (atL id 0 l).toNat, true) else (a, b, l, false)
theorem closeD_len (a b id : Int) (l : List S48) : (closeD a b id l).2.2.1.length ≤ l.length := by
  unfold closeD; split
  · simp only [List.length_eraseIdx]; split <;> omega
  · exact Nat.le_refl _
theorem iClose_f (a b id : Int) (l : List S48) (k : Nat) (hk : 1048580 < k) (hl : l.length ≤ 400000) : impl_CloseLane.f k a b l id = some (closeD a b id l) := by
  unfold impl_CloseLane.f
  rw [copyF_f a b l (by omega), lane_f a b id l k hk (by omega), iOk_f a b l k hk (by omega)]
  simp only [Option.bind_some]
  unfold closeD
  by_cases h : okF a b l = true
  · obtain ⟨g1, g2, g3, g5⟩ := okF_parts h
    rcases atL_spec id l 0 with ⟨h1, h2⟩ | ⟨p, x, q, rfl, hx, hp, h4⟩
    · rw [lanD_none id l 0 h2, h1, if_neg (by simp), if_neg (fun z => by omega)]
    · simp only [Nat.zero_add] at h4
      simp only [List.length_append, List.length_cons] at hl
      have hlt : ∀ y ∈ p, y.f0 < id := fun y hy => by rw [← hx]; exact okLanes_lt x q p 0 g1 y hy
      rw [lanD_at id x q hx p 0 hlt, h4, if_pos rfl, if_pos h]
      simp only [Nat.zero_add]
      unfold slices_Delete_Lane.f
      rw [if_pos (nn _), if_pos (len_mid p x q), if_pos (by rw [w64 (by omega) (by omega)]), if_pos ⟨by omega, h⟩]
      rfl
  · by_cases c : (lanD id 0 l).2 = true
    · rw [if_pos c, if_neg h, if_neg (fun z => h z.2)]
    · rw [if_neg c, if_neg (fun z => h z.2)]
def takenL (n : Int) (x : S48) : S48 := ⟨x.f0, x.f1 - n⟩
def roomOk (a id n : Int) (l : List S48) : Bool := decide (0 ≤ n ∧ n ≤ roomL a id l)
def spendD (a b id n : Int) (l : List S48) : Int × Int × List S48 × Bool := if 0 ≤ atL id 0 l ∧ okF a b l = true ∧ roomOk a id n l = true then (a - n, b, l.set (atL id 0 l).toNat (takenL n (rd_T48 l (atL id 0 l))), true) else (a, b, l, false)
theorem spendD_len (a b id n : Int) (l : List S48) : (spendD a b id n l).2.2.1.length = l.length := by
  unfold spendD; split <;> simp
theorem sSpend_f (a b id n : Int) (l : List S48) (k : Nat) (hk : 1048580 < k) (hl : l.length ≤ 400000) : spec_Spend.f k a b l id n = some (spendD a b id n l) := by
  unfold spec_Spend.f
  rw [l10Copy_f a b l (by omega), sAt_f a b id l k hk (by omega), sRoom_f a b l id k hk (by omega)]
  simp only [Option.bind_some, l1In_f]
  rcases atL_spec id l 0 with ⟨h1, h2⟩ | ⟨p, x, q, rfl, hx, hp, h4⟩
  · unfold spendD
    rw [h1, if_pos (by omega), if_neg (fun z => by omega)]
  · unfold spendD
    simp only [Nat.zero_add] at h4
    simp only [List.length_append, List.length_cons] at hl
    rw [h4, if_neg (by omega)]
    by_cases c : roomOk a id n (p ++ x :: q) = true
    · rw [if_pos (show decide (0 ≤ n ∧ n ≤ roomL a id (p ++ x :: q)) = true from c), if_pos (nn _), if_pos (len_mid p x q), rdS_mid, set_mid, ends_f a b _ _ _ _ true k hk (by simp; omega) (by simp; omega)]
      simp only [Option.bind_some]
      congr 1
      by_cases h : okF a b (p ++ x :: q) = true
      · obtain ⟨g1, g2, g3, g5⟩ := okF_parts h
        have g5' : p.length + (q.length + 1) ≤ 100 := by simpa using g5
        have hxl := okLanes_left _ 0 g1 x (by simp)
        rw [roomOk, roomL_at a id x q hx p hp, decide_eq_true_eq] at c
        have g2' := g2
        simp only [okLeft, okW, decide_eq_true_eq] at hxl g2'
        rw [w64 (x := a - n) (by omega) (by omega), w64 (x := x.f1 - n) (by omega) (by omega)]
        have e : okF (a - n) b (p ++ { f0 := x.f0, f1 := x.f1 - n } :: q) = true := okF_mk (okLanes_put x ⟨x.f0, x.f1 - n⟩ q rfl (by simp only [okLeft, decide_eq_true_eq]; omega) p 0 g1) (by simp only [okW, decide_eq_true_eq]; omega) g3 (by simp; omega)
        rw [endsD_yes h e, if_pos ⟨by omega, h, by rw [roomOk, roomL_at a id x q hx p hp, decide_eq_true_eq]; omega⟩, set_mid]
        rfl
      · rw [endsD_not h, if_neg (fun z => h z.2.1)]
    · rw [if_neg (show ¬ decide (0 ≤ n ∧ n ≤ roomL a id (p ++ x :: q)) = true from c), if_neg (fun z => c z.2.2)]
def inG (n : Int) : Bool := decide (1 ≤ n ∧ n ≤ 2147483647)
def grantD (a b id n : Int) (l : List S48) : Int × Int × List S48 × Bool :=
  if inG n = true ∧ okF a b l = true then
    (if id = 0 then (if a + n ≤ 2147483647 then (a + n, b, l, true) else (a, b, l, false))
     else if 0 ≤ atL id 0 l ∧ (rd_T48 l (atL id 0 l)).f1 + n ≤ 2147483647 then (a, b, l.set (atL id 0 l).toNat (takenL (-n) (rd_T48 l (atL id 0 l))), true) else (a, b, l, false))
  else (a, b, l, false)
theorem grantD_len (a b id n : Int) (l : List S48) : (grantD a b id n l).2.2.1.length = l.length := by
  unfold grantD; (repeat' split) <;> simp
theorem sGrant_f (a b id n : Int) (l : List S48) (k : Nat) (hk : 1048590 < k) (hl : l.length ≤ 400000) : spec_Grant.f k a b l id n = some (grantD a b id n l) := by
  unfold spec_Grant.f
  rw [l10Copy_f a b l (by omega), sAt_f a b id l k (by omega) (by omega)]
  simp only [Option.bind_some, l1In_f]
  obtain ⟨k, rfl⟩ : ∃ m, k = m + 1 := ⟨k - 1, by omega⟩
  simp only [spec_Grant.j0]
  by_cases cn : inG n = true
  · rw [if_pos (show decide (1 ≤ n ∧ n ≤ 2147483647) = true from cn)]
    have cn2 := cn
    simp only [inG, decide_eq_true_eq] at cn2
    by_cases c0 : id = 0
    · rw [if_pos c0, if_neg (by decide), if_pos c0, ends_f a b l _ b l true k (by omega) (by omega) (by omega)]
      simp only [Option.bind_some]
      congr 1
      unfold grantD
      by_cases h : okF a b l = true
      · obtain ⟨g1, g2, g3, g5⟩ := okF_parts h
        simp only [okW, decide_eq_true_eq] at g2
        rw [if_pos ⟨cn, h⟩, if_pos c0, w64 (x := a + n) (by omega) (by omega)]
        by_cases c : a + n ≤ 2147483647
        · rw [if_pos c, endsD_yes h (okF_mk g1 (by simp only [okW, decide_eq_true_eq]; omega) g3 g5)]
        · rw [if_neg c]
          unfold endsD
          rw [if_neg (fun z => by have := (okF_parts z.2.2).2.1; simp only [okW, decide_eq_true_eq] at this; omega)]
      · rw [endsD_not h, if_neg (fun z => h z.2)]
    · rw [if_neg c0, if_neg c0]
      rcases atL_spec id l 0 with ⟨h1, h2⟩ | ⟨p, x, q, rfl, hx, hp, h4⟩
      · rw [h1, if_pos (by decide)]
        unfold grantD
        rw [h1]
        split
        · rw [if_neg (fun z => by omega)]
        · rfl
      · simp only [Nat.zero_add] at h4
        simp only [List.length_append, List.length_cons] at hl
        rw [h4, if_neg (by simp), if_pos (nn _), if_pos (len_mid p x q), rdS_mid, set_mid, ends_f a b _ _ _ _ true k (by omega) (by simp; omega) (by simp; omega)]
        simp only [Option.bind_some]
        congr 1
        unfold grantD
        by_cases h : okF a b (p ++ x :: q) = true
        · obtain ⟨g1, g2, g3, g5⟩ := okF_parts h
          have g5' : p.length + (q.length + 1) ≤ 100 := by simpa using g5
          have hxl := okLanes_left _ 0 g1 x (by simp)
          simp only [okLeft, decide_eq_true_eq] at hxl
          rw [if_pos ⟨cn, h⟩, if_neg c0, h4, rdS_mid, set_mid, w64 (x := x.f1 + n) (by omega) (by omega)]
          by_cases c : x.f1 + n ≤ 2147483647
          · rw [if_pos ⟨nn _, c⟩, endsD_yes h (okF_mk (okLanes_put x ⟨x.f0, x.f1 + n⟩ q rfl (by simp only [okLeft, decide_eq_true_eq]; omega) p 0 g1) g2 g3 (by simp; omega))]
            simp [takenL]
          · rw [if_neg (fun z => c z.2)]
            unfold endsD
            rw [if_neg (fun z => by have := okLanes_left _ 0 (okF_parts z.2.2).1 ⟨x.f0, x.f1 + n⟩ (by simp); simp only [okLeft, decide_eq_true_eq] at this; omega)]
        · rw [endsD_not h, if_neg (fun z => h z.2)]
  · rw [if_neg (show ¬ decide (1 ≤ n ∧ n ≤ 2147483647) = true from cn), if_pos trivial]
    unfold grantD
    rw [if_neg (fun z => cn z.1)]
theorem lanD_split (id : Int) : ∀ (l : List S48) (n : Nat), ∃ p q, l = p ++ q ∧ (∀ y ∈ p, y.f0 < id) ∧ (lanD id n l).1 = ((n + p.length : Nat) : Int) ∧ (∀ x r, q = x :: r → ¬ x.f0 < id ∧ (lanD id n l).2 = (x.f0 == id)) ∧ (q = [] → (lanD id n l).2 = false)
  | [], n => ⟨[], [], rfl, by simp, by simp [lanD], by simp, fun _ => rfl⟩
  | x :: l, n => by
    by_cases c : x.f0 < id
    · obtain ⟨p, q, h1, h2, h3, h4, h5⟩ := lanD_split id l (n + 1)
      have e : lanD id n (x :: l) = lanD id (n + 1) l := by simp only [lanD]; rw [if_pos c]
      refine ⟨x :: p, q, by rw [h1]; rfl, ?_, by rw [e, h3]; simp; omega, by rw [e]; exact h4, by rw [e]; exact h5⟩
      intro y hy
      rcases List.mem_cons.1 hy with rfl | hy
      · exact c
      · exact h2 y hy
    · have e : lanD id n (x :: l) = ((n : Int), x.f0 == id) := by simp only [lanD]; rw [if_neg c]
      refine ⟨[], x :: l, rfl, by simp, by rw [e]; simp, fun y r h => ?_, by simp⟩
      injection h with h1 h2
      subst h1
      exact ⟨c, by rw [e]⟩
theorem okLanes_ins (id b : Int) (hb : okLeft b = true) (q : List S48) (hq : ∀ x r, q = x :: r → id < x.f0) : ∀ (p : List S48) (a : Int), okLanes a (p ++ q) = true → (∀ y ∈ p, y.f0 < id) → a < id → okLanes a (p ++ ⟨id, b⟩ :: q) = true
  | [], a, h, _, ha => by
    simp only [List.nil_append, okLanes, Bool.and_eq_true, decide_eq_true_eq] at h ⊢
    refine ⟨ha, hb, ?_⟩
    cases q with
    | nil => rfl
    | cons x r =>
      simp only [okLanes, Bool.and_eq_true, decide_eq_true_eq] at h ⊢
      exact ⟨hq x r rfl, h.2⟩
  | z :: p, a, h, hp, ha => by
    simp only [List.cons_append, okLanes, Bool.and_eq_true, decide_eq_true_eq] at h ⊢
    exact ⟨h.1, h.2.1, okLanes_ins id b hb q hq p z.f0 h.2.2 (fun y hy => hp y (by simp [hy])) (hp z (by simp))⟩
def putL (id b : Int) (l : List S48) : List S48 := l.take (lanD id 0 l).1.toNat ++ ⟨id, b⟩ :: l.drop (lanD id 0 l).1.toNat
def openD (a b id : Int) (l : List S48) : Int × Int × List S48 × Bool := if atL id 0 l < 0 ∧ okF a b l = true ∧ 1 ≤ id ∧ l.length < 100 then (a, b, putL id b l, true) else (a, b, l, false)
theorem putL_len (id b : Int) (l : List S48) : (putL id b l).length = l.length + 1 := by
  unfold putL
  simp only [List.length_append, List.length_take, List.length_cons, List.length_drop]
  omega
theorem openD_len (a b id : Int) (l : List S48) : (openD a b id l).2.2.1.length ≤ l.length + 1 := by
  unfold openD; split
  · simp only [putL_len]; omega
  · simp
theorem openD_ends (a b id : Int) (l : List S48) : endsD a b l a b (putL id b l) (decide (atL id 0 l < 0)) = openD a b id l := by
  unfold openD
  by_cases h : okF a b l = true
  · obtain ⟨g1, g2, g3, g5⟩ := okF_parts h
    by_cases c : atL id 0 l < 0
    · rw [decide_eq_true c]
      obtain ⟨p, q, h1, h2, h3, h4, h5⟩ := lanD_split id l 0
      have hpe : putL id b l = p ++ ⟨id, b⟩ :: q := by
        unfold putL
        rw [h3]
        simp only [Nat.zero_add, Int.toNat_natCast]
        rw [h1, List.take_left' rfl, List.drop_left' rfl]
      have hq : ∀ x r, q = x :: r → id < x.f0 := by
        intro x r hx
        have h6 := (h4 x r hx).1
        have h7 : x.f0 ≠ id := by
          rcases atL_spec id l 0 with ⟨_, h8⟩ | ⟨p', x', q', _, _, _, h9⟩
          · exact h8 x (by rw [h1, hx]; simp)
          · omega
        omega
      have g3' := g3
      simp only [okW, decide_eq_true_eq] at g3'
      by_cases ci : 1 ≤ id ∧ l.length < 100
      · rw [if_pos ⟨c, h, ci⟩, hpe]
        rw [h1] at g1
        exact endsD_yes h (okF_mk (okLanes_ins id b (by simp only [okLeft, decide_eq_true_eq]; omega) q hq p 0 g1 h2 (by omega)) g2 g3 (by rw [← hpe, putL_len]; omega))
      · rw [if_neg (fun z => ci z.2.2)]
        unfold endsD
        rw [if_neg]
        intro z
        obtain ⟨k1, _, _, k5⟩ := okF_parts z.2.2
        rw [putL_len] at k5
        rw [hpe] at k1
        have := okLanes_all ⟨id, b⟩ _ 0 k1 ⟨id, b⟩ (by simp)
        simp only at this
        exact ci ⟨by omega, by omega⟩
    · rw [decide_eq_false c, endsD_false, if_neg (fun z => c z.1)]
  · rw [endsD_not h, if_neg (fun z => h z.2.1)]
theorem sOpen_j1 (a b id : Int) (l : List S48) (n k : Nat) (hn : n ≤ l.length) (hk : 1048590 < k) (hl : l.length ≤ 400000) : spec_OpenLane.j1 k id (n : Int) a b l a b l = some (endsD a b l a b (l.take n ++ ⟨id, b⟩ :: l.drop n) (decide (atL id 0 l < 0))) := by
  obtain ⟨k, rfl⟩ : ∃ m, k = m + 1 := ⟨k - 1, by omega⟩
  simp only [spec_OpenLane.j1]
  simp only [Option.bind_some, List.nil_append, Int.toNat_natCast, List.length_nil, Nat.zero_add]
  have ht : (l.take n).length = n := by rw [List.length_take]; omega
  have hd : (l.drop n).length = l.length - n := by rw [List.length_drop]
  rw [if_pos (nn _), if_pos (by omega), if_pos (by omega), if_pos (by simp only [List.length_cons, List.length_nil]; omega), if_pos (by simp; omega), sAt_f a b id l k (by omega) (by omega)]
  simp only [Option.bind_some]
  rw [ends_f a b l a b _ _ k (by omega) (by omega) (by simp; omega)]
  simp [List.append_assoc]
theorem sOpen_l0 (a b id : Int) (q : List S48) : ∀ (p : List S48) (n k : Nat), p.length = n → q.length + 1048592 < k → (p ++ q).length ≤ 400000 →
    spec_OpenLane.l0 k id (n : Int) a b (p ++ q) a b (p ++ q) = some (endsD a b (p ++ q) a b ((p ++ q).take (lanD id n q).1.toNat ++ ⟨id, b⟩ :: (p ++ q).drop (lanD id n q).1.toNat) (decide (atL id 0 (p ++ q) < 0))) := by
  induction q with
  | nil =>
    intro p n k hp hk hl
    obtain ⟨k, rfl⟩ : ∃ m, k = m + 1 := ⟨k - 1, by omega⟩
    simp only [spec_OpenLane.l0, lanD]
    rw [if_neg (end_at hp), sOpen_j1 a b id _ n k (by simp; omega) (by omega) hl]
    simp only [Int.toNat_natCast]
  | cons x q ih =>
    intro p n k hp hk hl
    obtain ⟨k, rfl⟩ : ∃ m, k = m + 1 := ⟨k - 1, by omega⟩
    simp only [List.length_cons] at hk
    have hl2 := hl
    simp only [List.length_append, List.length_cons] at hl2
    simp only [spec_OpenLane.l0, lanD]
    rw [if_pos (lt_at hp), if_pos (nn _), rdS_at hp]
    by_cases c : x.f0 < id
    · rw [if_pos c, if_pos c, wi (m := n + 1) (by omega) (by omega)]
      have := ih (p ++ [x]) (n + 1) k (by simp [hp]) (by omega) (by simpa using hl)
      simpa using this
    · rw [if_neg c, if_neg c, sOpen_j1 a b id _ n k (by simp; omega) (by omega) hl]
      simp only [Int.toNat_natCast]
theorem sOpen_f (a b id : Int) (l : List S48) (k : Nat) (hk : 2097180 < k) (hl : l.length ≤ 400000) : spec_OpenLane.f k a b l id = some (openD a b id l) := by
  unfold spec_OpenLane.f
  rw [l10Copy_f a b l (by omega)]
  simp only [Option.bind_some]
  have := sOpen_l0 a b id l [] 0 k rfl (by omega) (by simpa using hl)
  simp only [List.nil_append] at this
  rw [show ((0 : Int)) = ((0 : Nat) : Int) from rfl, this]
  exact congrArg some (openD_ends a b id l)
theorem iOpen_f (a b id : Int) (l : List S48) (k : Nat) (hk : 2097180 < k) (hl : l.length ≤ 400000) : impl_OpenLane.f k a b l id = some (openD a b id l) := by
  unfold impl_OpenLane.f
  rw [lane_f a b id l k (by omega) (by omega), iOk_f a b l k (by omega) (by omega)]
  simp only [Option.bind_some]
  obtain ⟨k, rfl⟩ : ∃ m, k = m + 1 := ⟨k - 1, by omega⟩
  simp only [impl_OpenLane.j0]
  rw [copyF_f a b l (by omega)]
  simp only [Option.bind_some]
  obtain ⟨p, q, h1, h2, h3, h4, h5⟩ := lanD_split id l 0
  have hno : ∀ z : atL id 0 l < 0 ∧ okF a b l = true ∧ 1 ≤ id ∧ l.length < 100, (lanD id 0 l).2 = false := by
    intro z
    rcases atL_spec id l 0 with ⟨_, h8⟩ | ⟨p', x', q', _, _, _, h9⟩
    · exact lanD_none id l 0 h8
    · omega
  unfold openD
  by_cases c1 : (lanD id 0 l).2 = true
  · rw [if_pos c1, if_pos trivial, if_neg (fun z => by rw [hno z] at c1; cases c1)]
  · rw [if_neg c1]
    by_cases c2 : id < 1
    · rw [if_pos c2, if_pos trivial, if_neg (fun z => by omega)]
    · rw [if_neg c2]
      by_cases c3 : (l.length : Int) ≥ 100
      · rw [if_pos c3, if_pos trivial, if_neg (fun z => by omega)]
      · rw [if_neg c3]
        by_cases h : okF a b l = true
        · obtain ⟨g1, _⟩ := okF_parts h
          have hat : atL id 0 l < 0 := by
            rcases atL_spec id l 0 with ⟨h8, _⟩ | ⟨p', x', q', h6, h7, h8, h9⟩
            · omega
            · subst h6
              have := lanD_at id x' q' h7 p' 0 (fun y hy => by rw [← h7]; exact okLanes_lt x' q' p' 0 g1 y hy)
              rw [this] at c1
              exact absurd rfl c1
          rw [h, if_neg (by decide), if_pos ⟨hat, rfl, by omega, by omega⟩]
          have hpq : l.length = p.length + q.length := by rw [h1, List.length_append]
          unfold slices_Insert_Lane.f
          rw [if_pos (show [(⟨id, b⟩ : S48)].length = 1 from rfl), h3, if_pos (nn _), if_pos (by omega), if_pos (by omega)]
          simp only [Option.bind_some]
          unfold putL
          rw [h3]
          rfl
        · simp only [h, Bool.not_false, if_true]
          rw [if_neg (fun z => by cases z.2.1)]
theorem atL_at (id : Int) (x : S48) (q : List S48) (hx : x.f0 = id) : ∀ (p : List S48) (n : Nat), (∀ y ∈ p, y.f0 ≠ id) → atL id n (p ++ x :: q) = ((n + p.length : Nat) : Int)
  | [], n, _ => by
    simp only [List.nil_append, atL]
    rw [if_pos hx]
    simp
  | y :: p, n, h => by
    simp only [List.cons_append, atL]
    rw [if_neg (h y (by simp)), atL_at id x q hx p (n + 1) (fun z hz => h z (by simp [hz]))]
    simp; omega
theorem draw_l0 (n : Nat) : ∀ (L : List Int) (i h a b : Int) (l : List S48) (k : Nat), St L i → n ≤ 6 → l.length + n ≤ 1000 → 3000000 + 10 * n < k →
    ∃ a' b' l' i' h', spec_l10Draw.l0 k (n : Int) L i h a b l = some (a', b', l', i', h') ∧ l'.length ≤ l.length + n ∧ St L i' := by
  induction n with
  | zero =>
    intro L i h a b l k hs _ hl hk
    obtain ⟨k, rfl⟩ : ∃ m, k = m + 1 := ⟨k - 1, by omega⟩
    simp only [spec_l10Draw.l0]
    rw [if_neg (by omega)]
    exact ⟨_, _, _, _, _, rfl, by omega, hs⟩
  | succ n ih =>
    intro L i h a b l k hs hn hl hk
    obtain ⟨k, rfl⟩ : ∃ m, k = m + 2 := ⟨k - 2, by omega⟩
    have hw : wrap64 (((n + 1 : Nat) : Int) - 1) = (n : Int) := by unfold wrap64; omega
    have hj : ∀ (id m : Int) (z : Bool) (i h : Int), St L i → ∃ a' b' l' i' h', spec_l10Draw.j1 (k + 1) ((n + 1 : Nat) : Int) id m z L i h a b l = some (a', b', l', i', h') ∧ l'.length ≤ l.length + (n + 1) ∧ St L i' := by
      intro id m z i h hs
      simp only [spec_l10Draw.j1]
      rw [hw]
      have fin : ∀ (P : Int × Int × List S48 × Bool) (i h : Int), St L i → P.2.2.1.length ≤ l.length + 1 → ∃ a' b' l' i' h', spec_l10Draw.l0 k (n : Int) L i h P.1 P.2.1 P.2.2.1 = some (a', b', l', i', h') ∧ l'.length ≤ l.length + (n + 1) ∧ St L i' := by
        intro P i h hs hp
        obtain ⟨a', b', l', i', h', e, hl', hs'⟩ := ih L i h P.1 P.2.1 P.2.2.1 k hs (by omega) (by omega) (by omega)
        exact ⟨a', b', l', i', h', e, by omega, hs'⟩
      cases z with
      | true =>
        rw [if_pos rfl, sOpen_f a b id l k (by omega) (by omega)]
        simp only [Option.bind_some]
        exact fin _ i h hs (openD_len a b id l)
      | false =>
        rw [if_neg (by decide)]
        by_cases c2 : m = 2
        · rw [if_pos c2]
          obtain ⟨x, i1, h1, e1, _, s1⟩ := int_f h [1, 10, 50] hs (by decide)
          rw [e1]
          simp only [Option.bind_some]
          rw [sSpend_f a b id x l k (by omega) (by omega)]
          simp only [Option.bind_some]
          exact fin _ i1 h1 s1 (by rw [spendD_len]; omega)
        · rw [if_neg c2]
          by_cases c3 : m = 3
          · rw [if_pos c3]
            obtain ⟨x, i1, h1, e1, _, s1⟩ := int_f h [0, id] hs (by simp)
            rw [e1]
            simp only [Option.bind_some]
            obtain ⟨y, i2, h2, e2, _, s2⟩ := int_f h1 [1, 100] s1 (by decide)
            rw [e2]
            simp only [Option.bind_some]
            rw [sGrant_f a b x y l k (by omega) (by omega)]
            simp only [Option.bind_some]
            exact fin _ i2 h2 s2 (by rw [grantD_len]; omega)
          · rw [if_neg c3]
            obtain ⟨x, i1, h1, e1, _, s1⟩ := int_f h [0, 50, 200] hs (by decide)
            rw [e1]
            simp only [Option.bind_some]
            rw [sNew_f a b l x k (by omega) (by omega)]
            simp only [Option.bind_some]
            exact fin _ i1 h1 s1 (by rw [newD_len]; omega)
    simp only [spec_l10Draw.l0]
    rw [if_pos (by omega)]
    obtain ⟨x, i1, h1, e1, _, s1⟩ := int_f h [1, 3, 5] hs (by decide)
    rw [e1]
    simp only [Option.bind_some]
    obtain ⟨y, i2, h2, e2, _, _, _, s2⟩ := below_f h1 5 s1
    rw [e2]
    simp only [Option.bind_some]
    split
    · exact hj x y _ i2 h2 s2
    · exact hj x y _ i2 h2 s2
theorem draw_f {L : List Int} {i : Int} (h : Int) (hs : St L i) (k : Nat) (hk : 3000100 < k) : ∃ a' b' l' i' h', spec_l10Draw.f k L i h = some (a', b', l', i', h') ∧ l'.length ≤ 6 ∧ St L i' := by
  unfold spec_l10Draw.f spec_FlowNew.f
  obtain ⟨x, i1, h1, e1, _, s1⟩ := int_f h [100, 65535, 0, 10] hs (by decide)
  rw [e1]
  simp only [Option.bind_some, l1In_f]
  obtain ⟨y, i2, h2, e2, y0, y1, _, s2⟩ := below_f h1 6 s1
  have := y1 (by omega)
  obtain ⟨n, rfl⟩ := Int.eq_ofNat_of_zero_le y0
  have key : ∀ a b, ∃ a' b' l' i' h', spec_l10Draw.l0 k (n : Int) L i2 h2 a b [] = some (a', b', l', i', h') ∧ l'.length ≤ 6 ∧ St L i' := by
    intro a b
    obtain ⟨a', b', l', i', h', e, hl', hs'⟩ := draw_l0 n L i2 h2 a b [] k s2 (by omega) (by simp; omega) (by omega)
    exact ⟨a', b', l', i', h', e, by simp at hl'; omega, hs'⟩
  split
  · simp only [Option.bind_some]
    rw [e2]
    simp only [Option.bind_some]
    exact key _ _
  · simp only [Option.bind_some]
    rw [e2]
    simp only [Option.bind_some]
    exact key _ _
theorem any_f {L : List Int} {i : Int} (h : Int) (hs : St L i) (k : Nat) (hk : 3000100 < k) : ∃ a' b' l' i' h', spec_l10Any.f k L i h = some (a', b', l', i', h') ∧ l'.length ≤ 7 ∧ St L i' := by
  unfold spec_l10Any.f
  obtain ⟨a, b, l, i1, h1, e1, hl, s1⟩ := draw_f h hs k hk
  rw [e1]
  simp only [Option.bind_some]
  obtain ⟨y, i2, h2, e2, _, _, _, s2⟩ := below_f h1 12 s1
  rw [e2]
  simp only [Option.bind_some]
  split
  · obtain ⟨x, i3, h3, e3, _, s3⟩ := int_f h2 [-1, 2147483647, 2147483648] s2 (by decide)
    rw [e3]
    exact ⟨_, _, _, _, _, rfl, by omega, s3⟩
  · split
    · obtain ⟨x, i3, h3, e3, _, s3⟩ := int_f h2 [-1, 2147483647] s2 (by decide)
      rw [e3]
      exact ⟨_, _, _, _, _, rfl, by omega, s3⟩
    · split
      · obtain ⟨x, i3, h3, e3, _, _, _, s3⟩ := below_f h2 8 s2
        rw [e3]
        simp only [Option.bind_some]
        obtain ⟨y, i4, h4, e4, _, s4⟩ := int_f h3 [-2147483648, 2147483647, 0, -5] s3 (by decide)
        rw [e4]
        simp only [Option.bind_some]
        rw [if_pos (by omega)]
        exact ⟨_, _, _, _, _, rfl, by simp; omega, s4⟩
      · exact ⟨_, _, _, _, _, rfl, by omega, s2⟩
theorem drawOpen_f (L : List Int) (hL : L.length ≤ 9223372036854775807) (k : Nat) (hk : 3000100 < k) : ∃ a b l id, spec_DrawOpenLane.f k L = some (a, b, l, id) ∧ l.length ≤ 7 := by
  unfold spec_DrawOpenLane.f
  obtain ⟨h, e⟩ := new_f L hL k (by omega)
  rw [e]
  simp only [Option.bind_some]
  obtain ⟨a, b, l, i1, h1, e1, hl, s1⟩ := any_f (L := L) (i := 0) h ⟨by omega, by omega, by omega⟩ k hk
  rw [e1]
  simp only [Option.bind_some]
  obtain ⟨id, i2, h2, e2, hid, s2⟩ := int_f h1 [1, 3, 5, 7, 0, -1] s1 (by decide)
  rw [e2]
  exact ⟨_, _, _, _, rfl, hl⟩
theorem drawNew_f (L : List Int) (hL : L.length ≤ 9223372036854775807) (k : Nat) (hk : 3000100 < k) : ∃ a b l n, spec_DrawNewInit.f k L = some (a, b, l, n) ∧ l.length ≤ 7 := by
  unfold spec_DrawNewInit.f
  obtain ⟨h, e⟩ := new_f L hL k (by omega)
  rw [e]
  simp only [Option.bind_some]
  obtain ⟨a, b, l, i1, h1, e1, hl, s1⟩ := any_f (L := L) (i := 0) h ⟨by omega, by omega, by omega⟩ k hk
  rw [e1]
  simp only [Option.bind_some]
  obtain ⟨id, i2, h2, e2, hid, s2⟩ := int_f h1 [0, 10, 100, 2147483647, -1, 2147483648] s1 (by decide)
  rw [e2]
  exact ⟨_, _, _, _, rfl, hl⟩
theorem lanes_l0 (n a b : Int) (hn : okW n = true) (l0 : List S48) (hl : l0.length ≤ 100) (hok : okF a n (l0.map (moved (n - b))) = true) (q : List S48) : ∀ (p : List S48) (i k : Nat), p.length = i → q.length + 1048590 < k → l0 = p ++ q →
    laws_FnLanes.l0 k n (i : Int) a b l0 a n (l0.map (moved (n - b))) = some true := by
  induction q with
  | nil =>
    intro p i k hp hk h0
    obtain ⟨k, rfl⟩ : ∃ m, k = m + 1 := ⟨k - 1, by omega⟩
    simp only [laws_FnLanes.l0]
    rw [if_neg (by simp [h0]; omega), iOk_f a n _ k (by simp at hk; omega) (by simp; omega), hok]
    simp only [Option.bind_some, if_true]
    unfold impl_FlowNew.f
    rw [isW_f, hn]
    simp
  | cons x q ih =>
    intro p i k hp hk h0
    obtain ⟨k, rfl⟩ : ∃ m, k = m + 1 := ⟨k - 1, by omega⟩
    have hr1 : rd_T48 l0 (i : Int) = x := by rw [h0]; exact rdS_at hp
    have hr2 : rd_T48 (l0.map (moved (n - b))) (i : Int) = moved (n - b) x := by rw [h0, List.map_append, List.map_cons]; exact rdS_at (by simpa using hp)
    have hlen : l0.length = p.length + (q.length + 1) := by rw [h0, List.length_append, List.length_cons]
    simp only [laws_FnLanes.l0]
    rw [hr1, hr2, if_pos (by omega), if_pos (nn _), if_pos (by rw [List.length_map]; omega), if_pos (by show wrap64 (x.f1 + (n - b) - x.f1) = _; congr 1; omega), if_pos (by rfl), wi (m := i + 1) (by omega) (by omega)]
    exact ih (p ++ [x]) (i + 1) k (by simp [hp]) (by simp at hk; omega) (by simp [h0])
theorem lanes_j0 (L : List Int) (hL : L.length ≤ 1048576) (k : Nat) (hk : 3000110 < k) : laws_FnLanes.j0 k L = some true := by
  obtain ⟨k, rfl⟩ : ∃ m, k = m + 2 := ⟨k - 2, by omega⟩
  simp only [laws_FnLanes.j0]
  obtain ⟨a, b, l, n, e, hl⟩ := drawNew_f L (by omega) (k + 1) (by omega)
  rw [e]
  simp only [Option.bind_some]
  rw [iNew_f a b l n (k + 1) (by omega) (by omega), sNew_f a b l n (k + 1) (by omega) (by omega)]
  simp only [Option.bind_some, bne_self_eq_false, Bool.false_eq_true, if_false, laws_FnLanes.j1]
  by_cases g : okW n = true ∧ okF a b l = true ∧ (l.all fun x => okLeft (moved (n - b) x).f1) = true
  · have hD : newD a b l n = (a, n, l.map (moved (n - b)), true) := by unfold newD; rw [if_pos g]
    rw [hD]
    simp only [Bool.not_true, Bool.false_eq_true, if_false]
    obtain ⟨g1, g2, g3⟩ := g
    obtain ⟨h1, h2, h3, h4⟩ := okF_parts g2
    have hok : okF a n (l.map (moved (n - b))) = true := okF_mk (by rw [okLanes_map (moved (n - b)) (fun x => rfl) l 0 h1]; exact g3) h2 g1 (by simpa using h4)
    have := lanes_l0 n a b g1 l h4 hok l [] 0 k rfl (by omega) rfl
    simpa using this
  · have hD : newD a b l n = (a, b, l, false) := by unfold newD; rw [if_neg g]
    rw [hD]
    simp
theorem putL_back (id b : Int) (l : List S48) (hno : ∀ x ∈ l, x.f0 ≠ id) : atL id 0 (putL id b l) = (lanD id 0 l).1 ∧ (putL id b l).eraseIdx (lanD id 0 l).1.toNat = l := by
  obtain ⟨p, q, h1, h2, h3, h4, h5⟩ := lanD_split id l 0
  have hp : (lanD id 0 l).1.toNat = p.length := by rw [h3]; simp
  have e : putL id b l = p ++ ⟨id, b⟩ :: q := by unfold putL; rw [hp, h1]; simp
  rw [e, atL_at id ⟨id, b⟩ q rfl p 0 (fun y hy => by have := h2 y hy; omega), h3, Int.toNat_natCast]
  refine ⟨rfl, ?_⟩
  rw [Nat.zero_add, List.eraseIdx_append_of_length_le (Nat.le_refl _)]
  simp [h1]
theorem FnLanes : laws_FnLanes.Pure := by
  intro L hL
  refine ⟨3000200, ?_⟩
  generalize hk : 3000200 = k
  unfold laws_FnLanes.f laws_big.f
  simp only [Option.bind_some]
  by_cases c : (L.length : Int) > 1048576
  · rw [if_pos (by simpa using c)]
  rw [if_neg (by simpa using c)]
  obtain ⟨a, b, l, id, e, hl⟩ := drawOpen_f L (by omega) k (by omega)
  rw [e]
  simp only [Option.bind_some]
  rw [iOpen_f a b id l k (by omega) (by omega), sOpen_f a b id l k (by omega) (by omega)]
  simp only [Option.bind_some]
  rw [if_neg (by simp), lanes_j0 L (by omega) k (by omega)]
  by_cases g : atL id 0 l < 0 ∧ okF a b l = true ∧ 1 ≤ id ∧ l.length < 100
  · have hD : openD a b id l = (a, b, putL id b l, true) := by unfold openD; rw [if_pos g]
    have hE := openD_ends a b id l
    rw [hD, decide_eq_true g.1] at hE
    have hok : okF a b (putL id b l) = true := by
      by_cases z : okF a b (putL id b l) = true
      · exact z
      · unfold endsD at hE
        rw [if_neg (fun y => z y.2.2)] at hE
        simp at hE
    have hno : ∀ x ∈ l, x.f0 ≠ id := by
      rcases atL_spec id l 0 with ⟨_, h8⟩ | ⟨p', x', q', _, _, _, h9⟩
      · exact h8
      · omega
    obtain ⟨b1, b2⟩ := putL_back id b l hno
    have hlen := putL_len id b l
    have h0 : 0 ≤ (lanD id 0 l).1 := by obtain ⟨p, q, h1, h2, h3, h4, h5⟩ := lanD_split id l 0; omega
    rw [hD]
    simp only [if_true]
    rw [iClose_f a b id (putL id b l) k (by omega) (by omega)]
    unfold closeD
    rw [if_pos ⟨by omega, hok⟩, b1, b2]
    simp only [Option.bind_some, if_true]
    rw [if_pos (by rw [hlen, wi (m := l.length + 1) (by omega) (by omega)]), iOk_f a b _ k (by omega) (by omega), hok]
    simp
  · have hD : openD a b id l = (a, b, l, false) := by unfold openD; rw [if_neg g]
    rw [hD]
    simp
end Go.Proofs.Ytejnagdmfooemaa.Pure
