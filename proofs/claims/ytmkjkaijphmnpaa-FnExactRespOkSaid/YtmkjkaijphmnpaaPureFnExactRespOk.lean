/- The law FnExactRespOk answers true at every answer: the program's RespOk is the reference's. For every input; no condition. -/
import Derived.Test.YtmkjkaijphmnpaaSFnExactRespOk
namespace Go.Proofs.Ytmkjkaijphmnpaa.Pure
open Go.RowKit Go.Proofs.Ytmkjkaijphmnpaa.QFnExactRespOk Go.Proofs.YtmkjkaijphmnpaaW.PrintWords Go.Proofs.YtmkjkaijphmnpaaW.PrintLast Go.Proofs.YtmkjkaijphmnpaaW.PrintOpen
set_option linter.unusedVariables false
set_option linter.unusedSimpArgs false
theorem w64 {x : Int} (h0 : -9223372036854775808 ≤ x) (h1 : x ≤ 9223372036854775807) : wrap64 x = x := by unfold wrap64; omega
theorem wi {n m : Nat} (h : n < m) (hm : m ≤ 9223372036854775807) : wrap64 ((n : Int) + 1) = ((n + 1 : Nat) : Int) := by unfold wrap64; omega
theorem rdOf_mid {α : Type} (d : α) (p : List α) (s : α) (q : List α) : rdOf d (p ++ s :: q) (p.length : Int) = s := by simp [rdOf]
theorem set_mid {α : Type} (p : List α) (s v : α) (q : List α) : (p ++ s :: q).set ((p.length : Int)).toNat v = p ++ v :: q := by simp
theorem len_mid {α : Type} (p : List α) (s : α) (q : List α) : (p.length : Int) < ((p ++ s :: q).length : Int) := by simp; omega
theorem len_end {α : Type} (p : List α) : ¬ (p.length : Int) < ((p ++ []).length : Int) := by simp
theorem nn (n : Nat) : 0 ≤ (n : Int) := by omega
theorem rdOf_at {α : Type} (d : α) {p : List α} {s : α} {q : List α} {n : Nat} (h : p.length = n) : rdOf d (p ++ s :: q) (n : Int) = s := by subst h; exact rdOf_mid d p s q
theorem set_at {α : Type} {p : List α} {s v : α} {q : List α} {n : Nat} (h : p.length = n) : (p ++ s :: q).set ((n : Int)).toNat v = p ++ v :: q := by subst h; exact set_mid p s v q
theorem lt_at {α : Type} {p : List α} {s : α} {q : List α} {n : Nat} (h : p.length = n) : (n : Int) < ((p ++ s :: q).length : Int) := by subst h; exact len_mid p s q
theorem end_at {α : Type} {p : List α} {n : Nat} (h : p.length = n) : ¬ (n : Int) < ((p ++ []).length : Int) := by subst h; exact len_end p
theorem len_same {α : Type} {p p' q q' : List α} (h : p.length = p'.length) (h2 : q.length = q'.length) : (p ++ q).length = (p' ++ q').length := by simp [h, h2]
theorem rd_mid (p : List Int) (s : Int) (q : List Int) : rd (p ++ s :: q) (p.length : Int) = s := by simp [rd]
theorem rd_at {p : List Int} {s : Int} {q : List Int} {n : Nat} (h : p.length = n) : rd (p ++ s :: q) (n : Int) = s := by subst h; exact rd_mid p s q
theorem inR_f (a b c : Int) : impl_inRange.f a b c = some (decide (b ≤ a ∧ a ≤ c)) := by
  unfold impl_inRange.f
  by_cases h : a ≥ b
  · rw [if_pos h]; simp [show b ≤ a from h]
  · rw [if_neg h]; simp [show ¬ b ≤ a from h]
theorem l1In_f (a b c : Int) : spec_l1In.f a b c = some (decide (b ≤ a ∧ a ≤ c)) := by
  unfold spec_l1In.f
  by_cases h : a ≥ b
  · rw [if_pos h]; simp [show b ≤ a from h]
  · rw [if_neg h]; simp [show ¬ b ≤ a from h]
theorem FnExactRespOk : laws_FnExactRespOk.Pure := by
  intro a b ha hb
  unfold laws_FnExactRespOk.f laws_toResp.f
  simp only [Option.bind_some]
  have h : impl_RespOk.f a b = spec_RespOk.f a b := by
    unfold impl_RespOk.f spec_RespOk.f
    rw [inR_f, l1In_f, inR_f, l1In_f]
  rw [h]
  unfold spec_RespOk.f
  rw [l1In_f, l1In_f]
  simp only [Option.bind_some, decide_eq_true_eq]
  split <;> simp
end Go.Proofs.Ytmkjkaijphmnpaa.Pure
