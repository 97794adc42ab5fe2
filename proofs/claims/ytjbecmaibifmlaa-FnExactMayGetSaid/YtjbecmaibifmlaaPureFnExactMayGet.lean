/- The law FnExactMayGet answers true at every state: the program's MayGet is the reference's. For every input; no condition. -/
import Derived.Test.YtjbecmaibifmlaaSFnExactMayGet
namespace Go.Proofs.Ytjbecmaibifmlaa.Pure
open Go.RowKit Go.Proofs.Ytjbecmaibifmlaa.QFnExactMayGet Go.Proofs.YtjbecmaibifmlaaW.PrintWords Go.Proofs.YtjbecmaibifmlaaW.PrintLast Go.Proofs.YtjbecmaibifmlaaW.PrintOpen
set_option linter.unusedVariables false
set_option linter.unusedSimpArgs false
theorem w64 {x : Int} (h0 : -9223372036854775808 ≤ x) (h1 : x ≤ 9223372036854775807) : wrap64 x = x := by unfold wrap64; omega
theorem wi {n m : Nat} (h : n < m) (hm : m ≤ 9223372036854775807) : wrap64 ((n : Int) + 1) = ((n + 1 : Nat) : Int) := by unfold wrap64; omega
theorem rdOf_mid {α : Type} (d : α) (p : List α) (s : α) (q : List α) : rdOf d (p ++ s :: q) (p.length : Int) = s := by simp [rdOf]
theorem set_mid {α : Type} (p : List α) (s v : α) (q : List α) : (p ++ s :: q).set ((p.length : Int)).toNat v = p ++ v :: q := by simp
theorem len_mid {α : Type} (p : List α) (s : α) (q : List α) : (p.length : Int) < ((p ++ s :: q).length : Int) := by simp; omega
theorem len_end {α : Type} (p : List α) : ¬ (p.length : Int) < ((p ++ []).length : Int) := by simp
theorem nn (n : Nat) : 0 ≤ (n : Int) := by omega
theorem rdOf_at {α : Type} (d : α) {p : List α} {s : α} {q : List α} {n : Nat} (h : p.length = n) : rdOf d (p ++ s :: q) (n : Int) = s := by subst h; exact rdOf_mid d p s q
theorem set_at {α : Type} {p : List α} {s v : α} {q : List α} {n : Nat} (h : p.length = n) : (p ++ s :: q).set ((n : Int)).toNat v = p ++ v :: q := by subst h; exact set_mid p s v q
theorem lt_at {α : Type} {p : List α} {s : α} {q : List α} {n : Nat} (h : p.length = n) : (n : Int) < ((p ++ s :: q).length : Int) := by subst h; exact len_mid p s q
theorem end_at {α : Type} {p : List α} {n : Nat} (h : p.length = n) : ¬ (n : Int) < ((p ++ []).length : Int) := by subst h; exact len_end p
theorem len_same {α : Type} {p p' q q' : List α} (h : p.length = p'.length) (h2 : q.length = q'.length) : (p ++ q).length = (p' ++ q').length := by simp [h, h2]
theorem rd_mid (p : List Int) (s : Int) (q : List Int) : rd (p ++ s :: q) (p.length : Int) = s := by simp [rd]
theorem rd_at {p : List Int} {s : Int} {q : List Int} {n : Nat} (h : p.length = n) : rd (p ++ s :: q) (n : Int) = s := by subst h; exact rd_mid p s q
theorem inR_f (a b c : Int) : impl_inRange.f a b c = some (decide (b ≤ a ∧ a ≤ c)) := by
  unfold impl_inRange.f
  by_cases h : a ≥ b
  · rw [if_pos h]; simp [show b ≤ a from h]
  · rw [if_neg h]; simp [show ¬ b ≤ a from h]
theorem l1In_f (a b c : Int) : spec_l1In.f a b c = some (decide (b ≤ a ∧ a ≤ c)) := by
  unfold spec_l1In.f
  by_cases h : a ≥ b
  · rw [if_pos h]; simp [show b ≤ a from h]
  · rw [if_neg h]; simp [show ¬ b ≤ a from h]
def stIdle (e : Int) : Int × Int := if e = 1 ∨ e = 6 then (1, 0) else if e = 2 then (2, 0) else if e = 7 then (3, 0) else (0, 1)
def stOpen (e : Int) : Int × Int := if e = 2 ∨ e = 4 then (2, 0) else if e = 7 ∨ e = 9 then (3, 0) else if e = 5 ∨ e = 10 then (4, 0) else if e = 1 then (1, 1) else (1, 0)
def stThere (e : Int) : Int × Int := if e = 7 ∨ e = 9 ∨ e = 5 ∨ e = 10 then (4, 0) else if e = 6 ∨ e = 8 then (2, 0) else (2, 2)
def stHere (e : Int) : Int × Int := if e = 2 ∨ e = 4 ∨ e = 5 ∨ e = 10 then (4, 0) else if e = 3 then (3, 0) else if e = 1 then (3, 1) else (3, 2)
def step (s e : Int) : Int × Int :=
  if 1 ≤ e ∧ e ≤ 10 then (if s = 0 then stIdle e else if s = 1 then stOpen e else if s = 2 then stThere e else if s = 3 then stHere e else if s = 4 then (if e = 5 then (4, 0) else (4, 2)) else (s, 1)) else (s, 1)
theorem sIdle_f (e : Int) (k : Nat) (hk : 10 < k) : spec_l9Idle.f k e = some (stIdle e) := by
  obtain ⟨k, rfl⟩ : ∃ m, k = m + 1 := ⟨k - 1, by omega⟩
  unfold spec_l9Idle.f stIdle
  simp only [spec_l9Idle.j0]
  repeat' split
  all_goals simp_all
theorem sOpen_f (e : Int) (k : Nat) (hk : 10 < k) : spec_l9Open.f k e = some (stOpen e) := by
  obtain ⟨k, rfl⟩ : ∃ m, k = m + 3 := ⟨k - 3, by omega⟩
  unfold spec_l9Open.f stOpen
  simp only [spec_l9Open.j0, spec_l9Open.j1, spec_l9Open.j2]
  repeat' split
  all_goals simp_all
theorem sThere_f (e : Int) (k : Nat) (hk : 10 < k) : spec_l9There.f k e = some (stThere e) := by
  obtain ⟨k, rfl⟩ : ∃ m, k = m + 1 := ⟨k - 1, by omega⟩
  unfold spec_l9There.f stThere
  simp only [spec_l9There.j0]
  repeat' split
  all_goals simp_all
theorem sHere_f (e : Int) (k : Nat) (hk : 10 < k) : spec_l9Here.f k e = some (stHere e) := by
  obtain ⟨k, rfl⟩ : ∃ m, k = m + 1 := ⟨k - 1, by omega⟩
  unfold spec_l9Here.f stHere
  simp only [spec_l9Here.j0]
  repeat' split
  all_goals simp_all
theorem sStep_f (s e : Int) (k : Nat) (hk : 10 < k) : spec_StreamStep.f k s e = some (step s e) := by
  unfold spec_StreamStep.f step
  rw [l1In_f, sIdle_f e k hk, sOpen_f e k hk, sThere_f e k hk, sHere_f e k hk]
  simp only [Option.bind_some, decide_eq_true_eq]
  repeat' split
  all_goals simp_all
theorem iIdle_f (e : Int) (k : Nat) (hk : 10 < k) : impl_stepIdle.f k e = some (stIdle e) := by
  obtain ⟨k, rfl⟩ : ∃ m, k = m + 1 := ⟨k - 1, by omega⟩
  unfold impl_stepIdle.f stIdle
  simp only [impl_stepIdle.j0]
  repeat' split
  all_goals simp_all
theorem iOpen_f (e : Int) (k : Nat) (hk : 10 < k) : impl_stepOpen.f k e = some (stOpen e) := by
  obtain ⟨k, rfl⟩ : ∃ m, k = m + 3 := ⟨k - 3, by omega⟩
  unfold impl_stepOpen.f stOpen
  simp only [impl_stepOpen.j0, impl_stepOpen.j1, impl_stepOpen.j2]
  repeat' split
  all_goals simp_all
theorem iThere_f (e : Int) (k : Nat) (hk : 10 < k) : impl_stepHalfThere.f k e = some (stThere e) := by
  obtain ⟨k, rfl⟩ : ∃ m, k = m + 1 := ⟨k - 1, by omega⟩
  unfold impl_stepHalfThere.f stThere
  simp only [impl_stepHalfThere.j0]
  repeat' split
  all_goals simp_all
theorem iHere_f (e : Int) (k : Nat) (hk : 10 < k) : impl_stepHalfHere.f k e = some (stHere e) := by
  obtain ⟨k, rfl⟩ : ∃ m, k = m + 1 := ⟨k - 1, by omega⟩
  unfold impl_stepHalfHere.f stHere
  simp only [impl_stepHalfHere.j0]
  repeat' split
  all_goals simp_all
theorem iStep_f (s e : Int) (k : Nat) (hk : 10 < k) : impl_StreamStep.f k s e = some (step s e) := by
  unfold impl_StreamStep.f step
  rw [inR_f, iIdle_f e k hk, iOpen_f e k hk, iThere_f e k hk, iHere_f e k hk]
  simp only [Option.bind_some, decide_eq_true_eq]
  repeat' split
  all_goals simp_all
theorem sGet_f (s : Int) (k : Nat) (hk : 10 < k) : spec_MayGet.f k s = some ((step s 3).2 == 0) := by
  unfold spec_MayGet.f; rw [sStep_f s 3 k hk]; rfl
theorem iGet_f (s : Int) (k : Nat) (hk : 10 < k) : impl_MayGet.f k s = some ((step s 3).2 == 0) := by
  unfold impl_MayGet.f; rw [iStep_f s 3 k hk]; rfl
def run (s : Int) : List Int → Int × Nat
  | [] => (s, 0)
  | e :: l => if (step s e).2 = 0 then ((run (step s e).1 l).1, (run (step s e).1 l).2 + 1) else (s, 0)
theorem run_le : ∀ (l : List Int) (s : Int), (run s l).2 ≤ l.length
  | [], _ => by simp [run]
  | e :: l, s => by
    have := run_le l (step s e).1
    simp only [run]
    split <;> simp
    omega
theorem FnExactMayGet : laws_FnExactMayGet.Pure := by
  intro s _
  refine ⟨20, ?_⟩
  unfold laws_FnExactMayGet.f
  rw [sGet_f s 20 (by omega), iGet_f s 20 (by omega)]
  simp
end Go.Proofs.Ytjbecmaibifmlaa.Pure
