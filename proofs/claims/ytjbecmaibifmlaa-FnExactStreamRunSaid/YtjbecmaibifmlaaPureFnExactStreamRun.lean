/- The law FnExactStreamRun answers true at every list of events: the program's StreamRun is the reference's. For every input; no condition. -/
import Derived.Test.YtjbecmaibifmlaaSFnExactStreamRun
namespace Go.Proofs.Ytjbecmaibifmlaa.Pure
open Go.RowKit Go.Proofs.Ytjbecmaibifmlaa.QFnExactStreamRun Go.Proofs.YtjbecmaibifmlaaW.PrintWords Go.Proofs.YtjbecmaibifmlaaW.PrintLast Go.Proofs.YtjbecmaibifmlaaW.PrintOpen
set_option linter.unusedVariables false
set_option linter.unusedSimpArgs false
theorem w64 {x : Int} (h0 : -9223372036854775808 ≤ x) (h1 : x ≤ 9223372036854775807) : wrap64 x = x := by unfold wrap64; omega
theorem wi {n m : Nat} (h : n < m) (hm : m ≤ 9223372036854775807) : wrap64 ((n : Int) + 1) = ((n + 1 : Nat) : Int) := by unfold wrap64; omega
theorem rdOf_mid {α : Type} (d : α) (p : List α) (s : α) (q : List α) : rdOf d (p ++ s :: q) (p.length : Int) = s := by simp [rdOf]
theorem set_mid {α : Type} (p : List α) (s v : α) (q : List α) : (p ++ s :: q).set ((p.length : Int)).toNat v = p ++ v :: q := by simp
theorem len_mid {α : Type} (p : List α) (s : α) (q : List α) : (p.length : Int) < ((p ++ s :: q).length : Int) := by simp; omega
theorem len_end {α : Type} (p : List α) : ¬ (p.length : Int) < ((p ++ []).length : Int) := by simp
theorem nn (n : Nat) : 0 ≤ (n : Int) := by omega
theorem rdOf_at {α : Type} (d : α) {p : List α} {s : α} {q : List α} {n : Nat} (h : p.length = n) : rdOf d (p ++ s :: q) (n : Int) = s := by subst h; exact rdOf_mid d p s q
theorem set_at {α : Type} {p : List α} {s v : α} {q : List α} {n : Nat} (h : p.length = n) : (p ++ s :: q).set ((n : Int)).toNat v = p ++ v :: q := by subst h; exact set_mid p s v q
theorem lt_at {α : Type} {p : List α} {s : α} {q : List α} {n : Nat} (h : p.length = n) : (n : Int) < ((p ++ s :: q).length : Int) := by subst h; exact len_mid p s q
theorem end_at {α : Type} {p : List α} {n : Nat} (h : p.length = n) : ¬ (n : Int) < ((p ++ []).length : Int) := by subst h; exact len_end p
theorem len_same {α : Type} {p p' q q' : List α} (h : p.length = p'.length) (h2 : q.length = q'.length) : (p ++ q).length = (p' ++ q').length := by simp [h, h2]
theorem rd_mid (p : List Int) (s : Int) (q : List Int) : rd (p ++ s :: q) (p.length : Int) = s := by simp [rd]
theorem rd_at {p : List Int} {s : Int} {q : List Int} {n : Nat} (h : p.length = n) : rd (p ++ s :: q) (n : Int) = s := by subst h; exact rd_mid p s q
theorem inR_f (a b c : Int) : impl_inRange.f a b c = some (decide (b ≤ a ∧ a ≤ c)) := by
  unfold impl_inRange.f
  by_cases h : a ≥ b
  · rw [if_pos h]; simp [show b ≤ a from h]
  · rw [if_neg h]; simp [show ¬ b ≤ a from h]
theorem l1In_f (a b c : Int) : spec_l1In.f a b c = some (decide (b ≤ a ∧ a ≤ c)) := by
  unfold spec_l1In.f
  by_cases h : a ≥ b
  · rw [if_pos h]; simp [show b ≤ a from h]
  · rw [if_neg h]; simp [show ¬ b ≤ a from h]
theorem toI_l0 (q : List Int) : ∀ (p z : List Int) (k : Nat), q.length < k → (p ++ q).length ≤ 9223372036854775807 → z.length = q.length → laws_toIntS.l0 k (p ++ q) (p ++ z) (p.length : Int) = some (p ++ q) := by
  induction q with
  | nil =>
    intro p z k hk _ hz
    obtain ⟨k, rfl⟩ : ∃ m, k = m + 1 := ⟨k - 1, by simp at hk; omega⟩
    obtain rfl : z = [] := List.length_eq_zero_iff.mp (by simpa using hz)
    simp only [laws_toIntS.l0]
    rw [if_neg (len_end p)]
  | cons s q ih =>
    intro p z k hk hl hz
    obtain ⟨k, rfl⟩ : ∃ m, k = m + 1 := ⟨k - 1, by simp at hk; omega⟩
    obtain ⟨y, z, rfl⟩ : ∃ y z', z = y :: z' := by cases z with | nil => simp at hz | cons y z => exact ⟨y, z, rfl⟩
    simp only [laws_toIntS.l0]
    rw [if_pos (len_mid p s q), if_pos (nn _), if_pos (len_mid p y z), rd_mid, set_mid, wi (m := (p ++ s :: q).length) (by simp <;> omega) hl]
    have := ih (p ++ [s]) z k (by simp at hk; omega) (by simpa using hl) (by simpa using hz)
    simpa using this
theorem toI_f (l : List Int) (k : Nat) (hk : l.length < k) (hl : l.length ≤ 1048576) : laws_toIntS.f k l = some l := by
  unfold laws_toIntS.f
  rw [if_pos (nn _), if_pos (by simp <;> omega)]
  have := toI_l0 l [] (List.replicate l.length 0) k hk (by simp <;> omega) (by simp)
  simpa using this
theorem eqI_l0 (q : List Int) : ∀ (p : List Int) (k : Nat), q.length < k → (p ++ q).length ≤ 9223372036854775807 → laws_eqIntS.l0 k (p ++ q) (p ++ q) (p.length : Int) = some true := by
  induction q with
  | nil =>
    intro p k hk _
    obtain ⟨k, rfl⟩ : ∃ m, k = m + 1 := ⟨k - 1, by simp at hk; omega⟩
    simp only [laws_eqIntS.l0]
    rw [if_neg (len_end p)]
  | cons s q ih =>
    intro p k hk hl
    obtain ⟨k, rfl⟩ : ∃ m, k = m + 1 := ⟨k - 1, by simp at hk; omega⟩
    simp only [laws_eqIntS.l0]
    rw [if_pos (len_mid p s q), if_pos (nn _), if_pos (len_mid p s q), if_pos trivial, wi (m := (p ++ s :: q).length) (by simp <;> omega) hl]
    have := ih (p ++ [s]) k (by simp at hk; omega) (by simpa using hl)
    simpa using this
theorem eqI_f (l : List Int) (k : Nat) (hk : l.length < k) (hl : l.length ≤ 1048576) : laws_eqIntS.f k l l = some true := by
  unfold laws_eqIntS.f
  rw [if_pos rfl]
  simpa using eqI_l0 l [] k hk (by simp <;> omega)
def stIdle (e : Int) : Int × Int := if e = 1 ∨ e = 6 then (1, 0) else if e = 2 then (2, 0) else if e = 7 then (3, 0) else (0, 1)
def stOpen (e : Int) : Int × Int := if e = 2 ∨ e = 4 then (2, 0) else if e = 7 ∨ e = 9 then (3, 0) else if e = 5 ∨ e = 10 then (4, 0) else if e = 1 then (1, 1) else (1, 0)
def stThere (e : Int) : Int × Int := if e = 7 ∨ e = 9 ∨ e = 5 ∨ e = 10 then (4, 0) else if e = 6 ∨ e = 8 then (2, 0) else (2, 2)
def stHere (e : Int) : Int × Int := if e = 2 ∨ e = 4 ∨ e = 5 ∨ e = 10 then (4, 0) else if e = 3 then (3, 0) else if e = 1 then (3, 1) else (3, 2)
def step (s e : Int) : Int × Int :=
  if 1 ≤ e ∧ e ≤ 10 then (if s = 0 then stIdle e else if s = 1 then stOpen e else if s = 2 then stThere e else if s = 3 then stHere e else if s = 4 then (if e = 5 then (4, 0) else (4, 2)) else (s, 1)) else (s, 1)
theorem sIdle_f (e : Int) (k : Nat) (hk : 10 < k) : spec_l9Idle.f k e = some (stIdle e) := by
  obtain ⟨k, rfl⟩ : ∃ m, k = m + 1 := ⟨k - 1, by omega⟩
  unfold spec_l9Idle.f stIdle
  simp only [spec_l9Idle.j0]
  repeat' split
  all_goals simp_all
theorem sOpen_f (e : Int) (k : Nat) (hk : 10 < k) : spec_l9Open.f k e = some (stOpen e) := by
  obtain ⟨k, rfl⟩ : ∃ m, k = m + 3 := ⟨k - 3, by omega⟩
  unfold spec_l9Open.f stOpen
  simp only [spec_l9Open.j0, spec_l9Open.j1, spec_l9Open.j2]
  repeat' split
  all_goals simp_all
theorem sThere_f (e : Int) (k : Nat) (hk : 10 < k) : spec_l9There.f k e = some (stThere e) := by
  obtain ⟨k, rfl⟩ : ∃ m, k = m + 1 := ⟨k - 1, by omega⟩
  unfold spec_l9There.f stThere
  simp only [spec_l9There.j0]
  repeat' split
  all_goals simp_all
theorem sHere_f (e : Int) (k : Nat) (hk : 10 < k) : spec_l9Here.f k e = some (stHere e) := by
  obtain ⟨k, rfl⟩ : ∃ m, k = m + 1 := ⟨k - 1, by omega⟩
  unfold spec_l9Here.f stHere
  simp only [spec_l9Here.j0]
  repeat' split
  all_goals simp_all
theorem sStep_f (s e : Int) (k : Nat) (hk : 10 < k) : spec_StreamStep.f k s e = some (step s e) := by
  unfold spec_StreamStep.f step
  rw [l1In_f, sIdle_f e k hk, sOpen_f e k hk, sThere_f e k hk, sHere_f e k hk]
  simp only [Option.bind_some, decide_eq_true_eq]
  repeat' split
  all_goals simp_all
theorem iIdle_f (e : Int) (k : Nat) (hk : 10 < k) : impl_stepIdle.f k e = some (stIdle e) := by
  obtain ⟨k, rfl⟩ : ∃ m, k = m + 1 := ⟨k - 1, by omega⟩
  unfold impl_stepIdle.f stIdle
  simp only [impl_stepIdle.j0]
  repeat' split
  all_goals simp_all
theorem iOpen_f (e : Int) (k : Nat) (hk : 10 < k) : impl_stepOpen.f k e = some (stOpen e) := by
  obtain ⟨k, rfl⟩ : ∃ m, k = m + 3 := ⟨k - 3, by omega⟩
  unfold impl_stepOpen.f stOpen
  simp only [impl_stepOpen.j0, impl_stepOpen.j1, impl_stepOpen.j2]
  repeat' split
  all_goals simp_all
theorem iThere_f (e : Int) (k : Nat) (hk : 10 < k) : impl_stepHalfThere.f k e = some (stThere e) := by
  obtain ⟨k, rfl⟩ : ∃ m, k = m + 1 := ⟨k - 1, by omega⟩
  unfold impl_stepHalfThere.f stThere
  simp only [impl_stepHalfThere.j0]
  repeat' split
  all_goals simp_all
theorem iHere_f (e : Int) (k : Nat) (hk : 10 < k) : impl_stepHalfHere.f k e = some (stHere e) := by
  obtain ⟨k, rfl⟩ : ∃ m, k = m + 1 := ⟨k - 1, by omega⟩
  unfold impl_stepHalfHere.f stHere
  simp only [impl_stepHalfHere.j0]
  repeat' split
  all_goals simp_all
theorem iStep_f (s e : Int) (k : Nat) (hk : 10 < k) : impl_StreamStep.f k s e = some (step s e) := by
  unfold impl_StreamStep.f step
  rw [inR_f, iIdle_f e k hk, iOpen_f e k hk, iThere_f e k hk, iHere_f e k hk]
  simp only [Option.bind_some, decide_eq_true_eq]
  repeat' split
  all_goals simp_all
def run (s : Int) : List Int → Int × Nat
  | [] => (s, 0)
  | e :: l => if (step s e).2 = 0 then ((run (step s e).1 l).1, (run (step s e).1 l).2 + 1) else (s, 0)
theorem run_le : ∀ (l : List Int) (s : Int), (run s l).2 ≤ l.length
  | [], _ => by simp [run]
  | e :: l, s => by
    have := run_le l (step s e).1
    simp only [run]
    split <;> simp
    omega
theorem sRun_l0 (q : List Int) : ∀ (p : List Int) (s : Int) (n k : Nat), p.length = n → q.length + 20 < k → (p ++ q).length ≤ 1048576 → spec_StreamRun.l0 k (p ++ q) s (n : Int) = some ((run s q).1, ((n + (run s q).2 : Nat) : Int)) := by
  induction q with
  | nil =>
    intro p s n k hp hk hl
    obtain ⟨k, rfl⟩ : ∃ m, k = m + 1 := ⟨k - 1, by omega⟩
    simp only [spec_StreamRun.l0]
    rw [if_neg (end_at hp)]
    simp [run, hp]
  | cons e q ih =>
    intro p s n k hp hk hl
    obtain ⟨k, rfl⟩ : ∃ m, k = m + 1 := ⟨k - 1, by omega⟩
    simp only [List.length_append, List.length_cons] at hk hl
    simp only [spec_StreamRun.l0]
    rw [if_pos (lt_at hp), if_pos (nn _), rd_at hp, sStep_f s e k (by omega)]
    simp only [Option.bind_some, run]
    by_cases c : (step s e).2 = 0
    · rw [if_pos c, if_pos c, wi (m := n + 1) (by omega) (by omega), show p ++ e :: q = (p ++ [e]) ++ q by simp, ih (p ++ [e]) _ (n + 1) k (by simp [hp]) (by omega) (by simp; omega)]
      simp; omega
    · rw [if_neg c, if_neg c]
      simp
theorem sRun_f (l : List Int) (k : Nat) (hk : 1048600 < k) (hl : l.length ≤ 1048576) : spec_StreamRun.f k l = some ((run 0 l).1, ((run 0 l).2 : Int)) := by
  unfold spec_StreamRun.f
  have := sRun_l0 l [] 0 0 k rfl (by omega) (by simpa using hl)
  simpa using this
theorem iRun_l0 (q : List Int) : ∀ (p : List Int) (s : Int) (n k : Nat), p.length = n → q.length + 20 < k → (p ++ q).length ≤ 1048576 → impl_StreamRun.l0 k (p ++ q) s (p ++ q) ((p ++ q).length : Int) (n : Int) = some ((run s q).1, ((n + (run s q).2 : Nat) : Int)) := by
  induction q with
  | nil =>
    intro p s n k hp hk hl
    obtain ⟨k, rfl⟩ : ∃ m, k = m + 1 := ⟨k - 1, by omega⟩
    simp only [impl_StreamRun.l0]
    rw [if_neg (end_at hp)]
    simp [run, hp]
  | cons e q ih =>
    intro p s n k hp hk hl
    obtain ⟨k, rfl⟩ : ∃ m, k = m + 1 := ⟨k - 1, by omega⟩
    have hl2 := hl
    simp only [List.length_append, List.length_cons] at hk hl2
    simp only [impl_StreamRun.l0]
    rw [if_pos (lt_at hp), if_pos (nn _), if_pos (lt_at hp), rd_at hp, iStep_f s e k (by omega)]
    simp only [Option.bind_some, run]
    by_cases c : (step s e).2 = 0
    · rw [if_pos c, if_pos c, wi (m := n + 1) (by omega) (by omega), show p ++ e :: q = (p ++ [e]) ++ q by simp, ih (p ++ [e]) _ (n + 1) k (by simp [hp]) (by omega) (by simp; omega)]
      simp; omega
    · rw [if_neg c, if_neg c]
      simp
theorem iRun_f (l : List Int) (k : Nat) (hk : 1048600 < k) (hl : l.length ≤ 1048576) : impl_StreamRun.f k l = some ((run 0 l).1, ((run 0 l).2 : Int)) := by
  unfold impl_StreamRun.f
  have := iRun_l0 l [] 0 0 k rfl (by omega) (by simpa using hl)
  simpa using this
theorem FnExactStreamRun : laws_FnExactStreamRun.Pure := by
  intro l hl
  refine ⟨1048601, ?_⟩
  generalize hk : 1048601 = k
  unfold laws_FnExactStreamRun.f
  by_cases c : (l.length : Int) > 1048576
  · rw [if_pos c]
  rw [if_neg c]
  have h1 := toI_f l k (by omega) (by omega)
  simp [h1, sRun_f l k (by omega) (by omega), iRun_f l k (by omega) (by omega), eqI_f l k (by omega) (by omega)]
end Go.Proofs.Ytjbecmaibifmlaa.Pure
