/- The law FnStreams answers true at every code: a stream that is closed stays so; who has ended puts nothing more; events one by one are as a run. For every input; no condition. -/
import Derived.Test.YtjbecmaibifmlaaSFnStreams
namespace Go.Proofs.Ytjbecmaibifmlaa.Pure
open Go.RowKit Go.Proofs.Ytjbecmaibifmlaa.QFnStreams Go.Proofs.YtjbecmaibifmlaaW.PrintWords Go.Proofs.YtjbecmaibifmlaaW.PrintLast Go.Proofs.YtjbecmaibifmlaaW.PrintOpen
set_option linter.unusedVariables false
set_option linter.unusedSimpArgs false
theorem w64 {x : Int} (h0 : -9223372036854775808 ≤ x) (h1 : x ≤ 9223372036854775807) : wrap64 x = x := by unfold wrap64; omega
theorem wi {n m : Nat} (h : n < m) (hm : m ≤ 9223372036854775807) : wrap64 ((n : Int) + 1) = ((n + 1 : Nat) : Int) := by unfold wrap64; omega
theorem rdOf_mid {α : Type} (d : α) (p : List α) (s : α) (q : List α) : rdOf d (p ++ s :: q) (p.length : Int) = s := by simp [rdOf]
theorem set_mid {α : Type} (p : List α) (s v : α) (q : List α) : (p ++ s :: q).set ((p.length : Int)).toNat v = p ++ v :: q := by simp
theorem len_mid {α : Type} (p : List α) (s : α) (q : List α) : (p.length : Int) < ((p ++ s :: q).length : Int) := by simp; omega
theorem len_end {α : Type} (p : List α) : ¬ (p.length : Int) < ((p ++ []).length : Int) := by simp
theorem nn (n : Nat) : 0 ≤ (n : Int) := by omega
theorem rdOf_at {α : Type} (d : α) {p : List α} {s : α} {q : List α} {n : Nat} (h : p.length = n) : rdOf d (p ++ s :: q) (n : Int) = s := by subst h; exact rdOf_mid d p s q
theorem set_at {α : Type} {p : List α} {s v : α} {q : List α} {n : Nat} (h : p.length = n) : (p ++ s :: q).set ((n : Int)).toNat v = p ++ v :: q := by subst h; exact set_mid p s v q
theorem lt_at {α : Type} {p : List α} {s : α} {q : List α} {n : Nat} (h : p.length = n) : (n : Int) < ((p ++ s :: q).length : Int) := by subst h; exact len_mid p s q
theorem end_at {α : Type} {p : List α} {n : Nat} (h : p.length = n) : ¬ (n : Int) < ((p ++ []).length : Int) := by subst h; exact len_end p
theorem len_same {α : Type} {p p' q q' : List α} (h : p.length = p'.length) (h2 : q.length = q'.length) : (p ++ q).length = (p' ++ q').length := by simp [h, h2]
theorem rd_mid (p : List Int) (s : Int) (q : List Int) : rd (p ++ s :: q) (p.length : Int) = s := by simp [rd]
theorem rd_at {p : List Int} {s : Int} {q : List Int} {n : Nat} (h : p.length = n) : rd (p ++ s :: q) (n : Int) = s := by subst h; exact rd_mid p s q
theorem and255 (n : Int) : Go.bits .and .i64 n 255 = n % 256 := by
  have h127 : (BitVec.ofInt 64 255).toNat = 2 ^ 8 - 1 := by decide
  have key : (BitVec.ofInt 64 n &&& BitVec.ofInt 64 255).toNat = (n % ((2 ^ 64 : Nat) : Int)).toNat % 2 ^ 8 := by
    rw [BitVec.toNat_and, BitVec.toNat_ofInt, h127, Nat.and_two_pow_sub_one_eq_mod]
  show IntKind.i64.wrap ((BitVec.ofInt 64 n &&& BitVec.ofInt 64 255).toNat : Nat) = n % 256
  rw [key, IntKind.wrap_i64]
  omega
theorem wi0 {n m : Nat} (h : n < m) (hm : m ≤ 9223372036854775807) : wrap64 ((n : Int) + 1) = ((n + 1 : Nat) : Int) := by unfold wrap64; omega
theorem new_l0 (L : List Int) (hL : L.length ≤ 9223372036854775807) (d : Nat) : ∀ (n k : Nat) (h : Int), n + d = 4000 → d < k → ∃ h', spec_l1New.l0 k L h (n : Int) = some (L, 0, h') := by
  induction d with
  | zero =>
    intro n k h hn hk
    obtain ⟨k, rfl⟩ : ∃ m, k = m + 1 := ⟨k - 1, by omega⟩
    simp only [spec_l1New.l0]
    by_cases c : (n : Int) < (L.length : Int)
    · rw [if_pos c, if_neg (by omega)]; exact ⟨_, rfl⟩
    · rw [if_neg c]; exact ⟨_, rfl⟩
  | succ d ih =>
    intro n k h hn hk
    obtain ⟨k, rfl⟩ : ∃ m, k = m + 1 := ⟨k - 1, by omega⟩
    simp only [spec_l1New.l0]
    by_cases c : (n : Int) < (L.length : Int)
    · rw [if_pos c, if_pos (by omega), if_pos (by omega), wi0 (m := n + 1) (by omega) (by omega)]
      exact ih (n + 1) k _ (by omega) (by omega)
    · rw [if_neg c]; exact ⟨_, rfl⟩
theorem new_f (L : List Int) (hL : L.length ≤ 9223372036854775807) (k : Nat) (hk : 4001 < k) : ∃ h, spec_l1New.f k L = some (L, 0, h) := by
  unfold spec_l1New.f
  exact new_l0 L hL 4000 0 k _ (by omega) (by omega)
def St (L : List Int) (i : Int) : Prop := 0 ≤ i ∧ i ≤ (L.length : Int) ∧ (L.length : Int) ≤ 9223372036854775807
theorem byte_f {L : List Int} {i : Int} (h : Int) (hs : St L i) : ∃ x i' h', spec_l1Byte.f L i h = some (x, i', h') ∧ 0 ≤ x ∧ x ≤ 255 ∧ St L i' := by
  obtain ⟨h0, h1, h2⟩ := hs
  unfold spec_l1Byte.f
  by_cases c : i < (L.length : Int)
  · rw [if_pos c, if_pos h0]
    refine ⟨_, _, _, rfl, ?_, ?_, ?_, ?_, h2⟩
    · rw [and255]; omega
    · rw [and255]; omega
    · unfold wrap64; omega
    · unfold wrap64; omega
  · rw [if_neg c]
    refine ⟨_, _, _, rfl, ?_, ?_, h0, h1, h2⟩
    · rw [and255]; omega
    · rw [and255]; omega
theorem below_f {L : List Int} {i : Int} (h n : Int) (hs : St L i) : ∃ x i' h', spec_l1Below.f L i h n = some (x, i', h') ∧ 0 ≤ x ∧ (0 < n → x < n) ∧ (n ≤ 0 → x = 0) ∧ St L i' := by
  unfold spec_l1Below.f
  by_cases c : n ≤ 0
  · rw [if_pos c]
    exact ⟨0, i, h, rfl, by omega, fun q => by omega, fun _ => rfl, hs⟩
  · rw [if_neg c]
    by_cases c2 : n ≤ 256
    · rw [if_pos c2]
      obtain ⟨x, i', h', e, a, b, s⟩ := byte_f h hs
      rw [e]
      simp only [Option.bind_some]
      rw [if_neg (by omega)]
      refine ⟨_, _, _, rfl, Int.tmod_nonneg _ a, fun _ => Int.tmod_lt_of_pos _ (by omega), fun q => by omega, s⟩
    · rw [if_neg c2]
      obtain ⟨x, i1, h1, e1, a1, b1, s1⟩ := byte_f h hs
      rw [e1]
      simp only [Option.bind_some]
      obtain ⟨y, i2, h2, e2, a2, b2, s2⟩ := byte_f h1 s1
      rw [e2]
      simp only [Option.bind_some]
      obtain ⟨z, i3, h3, e3, a3, b3, s3⟩ := byte_f h2 s2
      rw [e3]
      simp only [Option.bind_some]
      rw [if_neg (by omega)]
      refine ⟨_, _, _, rfl, Int.tmod_nonneg _ ?_, fun _ => Int.tmod_lt_of_pos _ (by omega), fun q => by omega, s3⟩
      unfold wrap64
      omega
theorem int_f {L : List Int} {i : Int} (h : Int) (l : List Int) (hs : St L i) (hl : 0 < l.length) : ∃ x i' h', spec_l1Int.f L i h l = some (x, i', h') ∧ x ∈ l ∧ St L i' := by
  unfold spec_l1Int.f
  obtain ⟨x, i', h', e, a, b, _, s⟩ := below_f h (l.length : Int) hs
  have := b (by omega)
  rw [e]
  simp only [Option.bind_some]
  rw [if_pos a, if_pos this]
  refine ⟨_, _, _, rfl, ?_, s⟩
  unfold rd
  rw [List.getD_eq_getElem?_getD, List.getElem?_eq_getElem (show x.toNat < l.length by omega)]
  exact List.getElem_mem _
theorem inR_f (a b c : Int) : impl_inRange.f a b c = some (decide (b ≤ a ∧ a ≤ c)) := by
  unfold impl_inRange.f
  by_cases h : a ≥ b
  · rw [if_pos h]; simp [show b ≤ a from h]
  · rw [if_neg h]; simp [show ¬ b ≤ a from h]
theorem l1In_f (a b c : Int) : spec_l1In.f a b c = some (decide (b ≤ a ∧ a ≤ c)) := by
  unfold spec_l1In.f
  by_cases h : a ≥ b
  · rw [if_pos h]; simp [show b ≤ a from h]
  · rw [if_neg h]; simp [show ¬ b ≤ a from h]
def stIdle (e : Int) : Int × Int := if e = 1 ∨ e = 6 then (1, 0) else if e = 2 then (2, 0) else if e = 7 then (3, 0) else (0, 1)
def stOpen (e : Int) : Int × Int := if e = 2 ∨ e = 4 then (2, 0) else if e = 7 ∨ e = 9 then (3, 0) else if e = 5 ∨ e = 10 then (4, 0) else if e = 1 then (1, 1) else (1, 0)
def stThere (e : Int) : Int × Int := if e = 7 ∨ e = 9 ∨ e = 5 ∨ e = 10 then (4, 0) else if e = 6 ∨ e = 8 then (2, 0) else (2, 2)
def stHere (e : Int) : Int × Int := if e = 2 ∨ e = 4 ∨ e = 5 ∨ e = 10 then (4, 0) else if e = 3 then (3, 0) else if e = 1 then (3, 1) else (3, 2)
def step (s e : Int) : Int × Int :=
  if 1 ≤ e ∧ e ≤ 10 then (if s = 0 then stIdle e else if s = 1 then stOpen e else if s = 2 then stThere e else if s = 3 then stHere e else if s = 4 then (if e = 5 then (4, 0) else (4, 2)) else (s, 1)) else (s, 1)
theorem sIdle_f (e : Int) (k : Nat) (hk : 10 < k) : spec_l9Idle.f k e = some (stIdle e) := by
  obtain ⟨k, rfl⟩ : ∃ m, k = m + 1 := ⟨k - 1, by omega⟩
  unfold spec_l9Idle.f stIdle
  simp only [spec_l9Idle.j0]
  repeat' split
  all_goals simp_all
theorem sOpen_f (e : Int) (k : Nat) (hk : 10 < k) : spec_l9Open.f k e = some (stOpen e) := by
  obtain ⟨k, rfl⟩ : ∃ m, k = m + 3 := ⟨k - 3, by omega⟩
  unfold spec_l9Open.f stOpen
  simp only [spec_l9Open.j0, spec_l9Open.j1, spec_l9Open.j2]
  repeat' split
  all_goals simp_all
theorem sThere_f (e : Int) (k : Nat) (hk : 10 < k) : spec_l9There.f k e = some (stThere e) := by
  obtain ⟨k, rfl⟩ : ∃ m, k = m + 1 := ⟨k - 1, by omega⟩
  unfold spec_l9There.f stThere
  simp only [spec_l9There.j0]
  repeat' split
  all_goals simp_all
theorem sHere_f (e : Int) (k : Nat) (hk : 10 < k) : spec_l9Here.f k e = some (stHere e) := by
  obtain ⟨k, rfl⟩ : ∃ m, k = m + 1 := ⟨k - 1, by omega⟩
  unfold spec_l9Here.f stHere
  simp only [spec_l9Here.j0]
  repeat' split
  all_goals simp_all
theorem sStep_f (s e : Int) (k : Nat) (hk : 10 < k) : spec_StreamStep.f k s e = some (step s e) := by
  unfold spec_StreamStep.f step
  rw [l1In_f, sIdle_f e k hk, sOpen_f e k hk, sThere_f e k hk, sHere_f e k hk]
  simp only [Option.bind_some, decide_eq_true_eq]
  repeat' split
  all_goals simp_all
theorem iIdle_f (e : Int) (k : Nat) (hk : 10 < k) : impl_stepIdle.f k e = some (stIdle e) := by
  obtain ⟨k, rfl⟩ : ∃ m, k = m + 1 := ⟨k - 1, by omega⟩
  unfold impl_stepIdle.f stIdle
  simp only [impl_stepIdle.j0]
  repeat' split
  all_goals simp_all
theorem iOpen_f (e : Int) (k : Nat) (hk : 10 < k) : impl_stepOpen.f k e = some (stOpen e) := by
  obtain ⟨k, rfl⟩ : ∃ m, k = m + 3 := ⟨k - 3, by omega⟩
  unfold impl_stepOpen.f stOpen
  simp only [impl_stepOpen.j0, impl_stepOpen.j1, impl_stepOpen.j2]
  repeat' split
  all_goals simp_all
theorem iThere_f (e : Int) (k : Nat) (hk : 10 < k) : impl_stepHalfThere.f k e = some (stThere e) := by
  obtain ⟨k, rfl⟩ : ∃ m, k = m + 1 := ⟨k - 1, by omega⟩
  unfold impl_stepHalfThere.f stThere
  simp only [impl_stepHalfThere.j0]
  repeat' split
  all_goals simp_all
theorem iHere_f (e : Int) (k : Nat) (hk : 10 < k) : impl_stepHalfHere.f k e = some (stHere e) := by
  obtain ⟨k, rfl⟩ : ∃ m, k = m + 1 := ⟨k - 1, by omega⟩
  unfold impl_stepHalfHere.f stHere
  simp only [impl_stepHalfHere.j0]
  repeat' split
  all_goals simp_all
theorem iStep_f (s e : Int) (k : Nat) (hk : 10 < k) : impl_StreamStep.f k s e = some (step s e) := by
  unfold impl_StreamStep.f step
  rw [inR_f, iIdle_f e k hk, iOpen_f e k hk, iThere_f e k hk, iHere_f e k hk]
  simp only [Option.bind_some, decide_eq_true_eq]
  repeat' split
  all_goals simp_all
theorem iPut_f (s : Int) (k : Nat) (hk : 10 < k) : impl_MayPut.f k s = some ((step s 8).2 == 0) := by
  unfold impl_MayPut.f; rw [iStep_f s 8 k hk]; rfl
theorem iGet_f (s : Int) (k : Nat) (hk : 10 < k) : impl_MayGet.f k s = some ((step s 3).2 == 0) := by
  unfold impl_MayGet.f; rw [iStep_f s 3 k hk]; rfl
def run (s : Int) : List Int → Int × Nat
  | [] => (s, 0)
  | e :: l => if (step s e).2 = 0 then ((run (step s e).1 l).1, (run (step s e).1 l).2 + 1) else (s, 0)
theorem run_le : ∀ (l : List Int) (s : Int), (run s l).2 ≤ l.length
  | [], _ => by simp [run]
  | e :: l, s => by
    have := run_le l (step s e).1
    simp only [run]
    split <;> simp
    omega
theorem iRun_l0 (q : List Int) : ∀ (p : List Int) (s : Int) (n k : Nat), p.length = n → q.length + 20 < k → (p ++ q).length ≤ 1048576 → impl_StreamRun.l0 k (p ++ q) s (p ++ q) ((p ++ q).length : Int) (n : Int) = some ((run s q).1, ((n + (run s q).2 : Nat) : Int)) := by
  induction q with
  | nil =>
    intro p s n k hp hk hl
    obtain ⟨k, rfl⟩ : ∃ m, k = m + 1 := ⟨k - 1, by omega⟩
    simp only [impl_StreamRun.l0]
    rw [if_neg (end_at hp)]
    simp [run, hp]
  | cons e q ih =>
    intro p s n k hp hk hl
    obtain ⟨k, rfl⟩ : ∃ m, k = m + 1 := ⟨k - 1, by omega⟩
    have hl2 := hl
    simp only [List.length_append, List.length_cons] at hk hl2
    simp only [impl_StreamRun.l0]
    rw [if_pos (lt_at hp), if_pos (nn _), if_pos (lt_at hp), rd_at hp, iStep_f s e k (by omega)]
    simp only [Option.bind_some, run]
    by_cases c : (step s e).2 = 0
    · rw [if_pos c, if_pos c, wi (m := n + 1) (by omega) (by omega), show p ++ e :: q = (p ++ [e]) ++ q by simp, ih (p ++ [e]) _ (n + 1) k (by simp [hp]) (by omega) (by simp; omega)]
      simp; omega
    · rw [if_neg c, if_neg c]
      simp
theorem iRun_f (l : List Int) (k : Nat) (hk : 1048600 < k) (hl : l.length ≤ 1048576) : impl_StreamRun.f k l = some ((run 0 l).1, ((run 0 l).2 : Int)) := by
  unfold impl_StreamRun.f
  have := iRun_l0 l [] 0 0 k rfl (by omega) (by simpa using hl)
  simpa using this
theorem drawRun_loop (L : List Int) (d : Nat) : ∀ (k : Nat) (z : List Int) (x i h : Int), x.toNat ≤ d → x ≤ 1000 → d < k → St L i → z.length + d ≤ 10000 → ∃ z', spec_DrawStreamRun.l0 k z x L i h = some z' ∧ z'.length ≤ 10000 := by
  induction d with
  | zero =>
    intro k z x i h hx hx1 hk hs hz
    obtain ⟨k, rfl⟩ : ∃ m, k = m + 1 := ⟨k - 1, by omega⟩
    simp only [spec_DrawStreamRun.l0]
    rw [if_neg (by omega)]
    exact ⟨_, rfl, by omega⟩
  | succ d ih =>
    intro k z x i h hx hx1 hk hs hz
    obtain ⟨k, rfl⟩ : ∃ m, k = m + 1 := ⟨k - 1, by omega⟩
    simp only [spec_DrawStreamRun.l0]
    by_cases c : x > 0
    · rw [if_pos c]
      obtain ⟨o, i2, h2, e2, _, s2⟩ := int_f h [3, 8, 4, 9, 2, 7, 5, 10, 1, 0] hs (by simp)
      rw [e2]
      simp only [Option.bind_some]
      rw [if_pos (by omega), w64 (x := x - 1) (by omega) (by omega)]
      exact ih k _ (x - 1) i2 h2 (by omega) (by omega) (by omega) s2 (by simp; omega)
    · rw [if_neg c]
      exact ⟨_, rfl, by omega⟩
theorem drawRun_f (L : List Int) (hL : L.length ≤ 9223372036854775807) (k : Nat) (hk : 5000 < k) : ∃ z, spec_DrawStreamRun.f k L = some z ∧ z.length ≤ 10000 := by
  unfold spec_DrawStreamRun.f
  obtain ⟨h, e⟩ := new_f L hL k (by omega)
  rw [e]
  simp only [Option.bind_some]
  obtain ⟨o, i1, h1, e1, _, s1⟩ := int_f h [1, 2, 6, 7, 3] (show St L 0 from ⟨by omega, by omega, by omega⟩) (by simp)
  rw [e1]
  simp only [Option.bind_some]
  obtain ⟨y, i2, h2, e2, hy0, hy1, _, s2⟩ := below_f h1 6 s1
  rw [e2]
  simp only [Option.bind_some]
  exact drawRun_loop L 6 k _ y i2 h2 (by omega) (by omega) (by omega) s2 (by simp)
theorem drawStep_f (L : List Int) (hL : L.length ≤ 9223372036854775807) (k : Nat) (hk : 5000 < k) : ∃ s e, spec_DrawStreamStep.f k L = some (s, e) := by
  unfold spec_DrawStreamStep.f
  obtain ⟨h, e⟩ := new_f L hL k (by omega)
  rw [e]
  simp only [Option.bind_some]
  obtain ⟨o, i1, h1, e1, _, s1⟩ := int_f h [0, 1, 2, 3, 4, 5, (-1), 1, 2, 3] (show St L 0 from ⟨by omega, by omega, by omega⟩) (by simp)
  rw [e1]
  simp only [Option.bind_some]
  obtain ⟨y, i2, h2, e2, hy0, hy1, _, s2⟩ := below_f h1 12 s1
  rw [e2]
  exact ⟨_, _, rfl⟩
theorem law_loop (l : List Int) (hl : l.length ≤ 10000) (P : Nat) (S : Int) (q : List Int) : ∀ (p : List Int) (s : Int) (n k : Nat), p ++ q = l → p.length = n → q.length + 20 < k → P = n + (run s q).2 → S = (run s q).1 → laws_FnStreams.l0 k l S (P : Int) s (n : Int) = some true := by
  induction q with
  | nil =>
    intro p s n k hpq hp hk hP hS
    obtain ⟨k, rfl⟩ : ∃ m, k = m + 1 := ⟨k - 1, by omega⟩
    have hln : l.length = n := by rw [← hpq]; simpa using hp
    simp only [run] at hP hS
    subst hP hS
    simp only [laws_FnStreams.l0]
    rw [if_neg (by omega), if_neg (by omega), if_pos trivial, if_pos (by omega)]
    simp; omega
  | cons e q ih =>
    intro p s n k hpq hp hk hP hS
    obtain ⟨k, rfl⟩ : ∃ m, k = m + 1 := ⟨k - 1, by omega⟩
    have hln : l.length = n + (q.length + 1) := by rw [← hpq]; simp [hp]
    have hrd : rd l (n : Int) = e := by rw [← hpq]; exact rd_at hp
    simp only [List.length_cons] at hk
    simp only [run] at hP hS
    by_cases c : (step s e).2 = 0
    · rw [if_pos c] at hP hS
      simp only at hP hS
      simp only [laws_FnStreams.l0]
      rw [if_pos (by omega), if_pos (by omega), if_pos (by omega), hrd, iStep_f s e k (by omega)]
      simp only [Option.bind_some]
      rw [if_pos c, wi (m := n + 1) (by omega) (by omega)]
      exact ih (p ++ [e]) _ (n + 1) k (by simpa using hpq) (by simp [hp]) (by omega) (by omega) hS
    · rw [if_neg c] at hP hS
      simp only [Nat.add_zero] at hP hS
      rw [hP, hS]
      simp only [laws_FnStreams.l0]
      rw [if_neg (by omega), if_pos (by omega), if_pos (by omega), hrd, iStep_f s e k (by omega)]
      simp only [Option.bind_some]
      rw [if_neg c, if_pos trivial, if_pos (by omega)]
      simp; omega
theorem step_lt (s e : Int) (h : (step s e).2 = 0) (hl : (step s e).1 < s) : s = 3 := by
  unfold step at h hl
  split at h
  · rename_i c
    rw [if_pos c] at hl
    unfold stIdle stOpen stThere stHere at *
    repeat' split at h
    all_goals simp_all
    all_goals omega
  · simp at h
theorem step_bad (s e : Int) (h : ¬ (step s e).2 = 0) : (step s e).1 = s := by
  unfold step at h ⊢
  split
  · rename_i c
    rw [if_pos c] at h
    unfold stIdle stOpen stThere stHere at *
    repeat' split at h
    all_goals simp_all
  · rfl
theorem step_closed (e : Int) : (step 4 e).1 = 4 := by
  unfold step
  simp
  split <;> (try split) <;> rfl
theorem FnStreams : laws_FnStreams.Pure := by
  intro L hL
  refine ⟨1100000, ?_⟩
  generalize hk : 1100000 = k
  have h2 : ∀ k, 1090000 < k → laws_FnStreams.j0 k L false = some true := by
    intro k hk
    obtain ⟨k, rfl⟩ : ∃ m, k = m + 2 := ⟨k - 2, by omega⟩
    obtain ⟨z, hz, hzl⟩ := drawRun_f L hL.1 k (by omega)
    have hp : ∀ s, impl_MayPut.f (k + 1) s = _ := fun s => iPut_f s (k + 1) (by omega)
    have hg : ∀ s, impl_MayGet.f (k + 1) s = _ := fun s => iGet_f s (k + 1) (by omega)
    have hloop := law_loop z hzl (run 0 z).2 (run 0 z).1 z [] 0 0 k rfl rfl (by omega) (by simp) rfl
    have e1 : ((step 3 8).2 == 0) = false := by decide
    have e2 : ((step 2 3).2 == 0) = false := by decide
    have e3 : ((step 4 8).2 == 0) = false := by decide
    have e4 : ((step 1 8).2 == 0) = true := by decide
    have e5 : ((step 1 3).2 == 0) = true := by decide
    simp only [laws_FnStreams.j0, hp, hg, e1, e2, e3, e4, e5, Option.bind_some, Bool.false_eq_true, if_false, if_true, Bool.not_true]
    simp only [laws_FnStreams.j1, Bool.false_eq_true, if_false, hz, iRun_f z k (by omega) (by omega), Option.bind_some]
    exact hloop
  unfold laws_FnStreams.f laws_big.f
  simp only [Option.bind_some]
  by_cases c : (L.length : Int) > 1048576
  · rw [if_pos (by simpa using c)]
  rw [if_neg (by simpa using c)]
  obtain ⟨s, e, he⟩ := drawStep_f L hL.1 k (by omega)
  rw [he]
  simp only [Option.bind_some]
  rw [iStep_f s e k (by omega), sStep_f s e k (by omega)]
  simp only [Option.bind_some, if_true]
  have hj := h2 k (by omega)
  by_cases c1 : (step s e).2 = 0
  · rw [if_pos c1]
    by_cases c2 : s = 4
    · subst c2
      have := step_closed e
      rw [if_pos rfl, if_pos this, if_neg (by omega)]
      exact hj
    · rw [if_neg c2]
      by_cases c3 : (step s e).1 < s
      · have := step_lt s e c1 c3
        subst this
        rw [if_pos c3]
        exact hj
      · rw [if_neg c3]; exact hj
  · rw [if_neg c1, if_pos (step_bad s e c1)]
    by_cases c2 : s = 4
    · subst c2
      rw [if_pos rfl, if_pos (step_closed e)]; exact hj
    · rw [if_neg c2]; exact hj
end Go.Proofs.Ytjbecmaibifmlaa.Pure
