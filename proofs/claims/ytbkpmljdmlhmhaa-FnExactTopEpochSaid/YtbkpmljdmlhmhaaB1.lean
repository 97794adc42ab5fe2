/- AN ABSTRACT MACHINE, 25: rows of structs: their elements. No condition of its own. -/
import Derived.Test.YtbkpmljdmlhmhaaB0
set_option linter.unusedVariables false
set_option linter.unusedSimpArgs false
namespace Go.AM
open Go AM
section
variable {α : Type} {c : α → List Tr} {sz : Nat}
theorem fl_len (hsz : ∀ a, (c a).length = sz) : ∀ l : List α, (l.flatMap c).length = l.length * sz
  | [] => by simp
  | a :: l => by rw [List.flatMap_cons, List.length_append, hsz, fl_len hsz l, List.length_cons, Nat.succ_mul]; omega
theorem fl_app (l m : List α) : l.flatMap c ++ m.flatMap c = (l ++ m).flatMap c := List.flatMap_append.symm
theorem fl_drop (hsz : ∀ a, (c a).length = sz) : ∀ (l : List α) (n : Nat), (l.flatMap c).drop (n * sz) = (l.drop n).flatMap c
  | l, 0 => by simp
  | [], n + 1 => by simp
  | a :: l, n + 1 => by
    rw [List.flatMap_cons, Nat.succ_mul, Nat.add_comm, ← List.drop_drop, List.drop_left' (hsz a), List.drop_succ_cons]
    exact fl_drop hsz l n
theorem fl_take (hsz : ∀ a, (c a).length = sz) : ∀ (l : List α) (n : Nat), (l.flatMap c).take (n * sz) = (l.take n).flatMap c
  | l, 0 => by simp
  | [], n + 1 => by simp
  | a :: l, n + 1 => by
    rw [List.flatMap_cons, Nat.succ_mul, Nat.add_comm, List.take_append, hsz, List.take_of_length_le (by rw [hsz]; omega), List.take_succ_cons, List.flatMap_cons, Nat.add_sub_cancel_left]
    rw [fl_take hsz l n]
theorem fl_cut (hsz : ∀ a, (c a).length = sz) (l : List α) (a n : Nat) : ((l.flatMap c).drop (a * sz)).take (n * sz) = ((l.drop a).take n).flatMap c := by
  rw [fl_drop hsz, fl_take hsz]
theorem el_fl (hsz : ∀ a, (c a).length = sz) {l : List α} {i : Nat} {z : α} (h : i < l.length) : el (l.flatMap c) sz i = c (l.getD i z) := by
  unfold el
  have e : ∀ xs : List α, (xs.flatMap c).take sz = (xs.take 1).flatMap c := fun xs => by
    have := fl_take hsz xs 1
    rwa [Nat.one_mul] at this
  rw [fl_drop hsz, e, List.drop_eq_getElem_cons h, List.getD_eq_getElem?_getD, List.getElem?_eq_getElem h]
  simp only [List.take_succ_cons, List.take_zero, List.flatMap_cons, List.flatMap_nil, List.append_nil, Option.getD_some]
theorem upEl_fl (hsz : ∀ a, (c a).length = sz) {l : List α} {i : Nat} (h : i < l.length) (x : α) : upEl (l.flatMap c) sz i (c x) = (l.set i x).flatMap c := by
  unfold upEl
  rw [fl_take hsz, show i * sz + sz = (i + 1) * sz by rw [Nat.succ_mul], fl_drop hsz, List.set_eq_take_append_cons_drop, if_pos h]
  simp [List.flatMap_append, List.flatMap_cons]
theorem el_up {cs L : List Tr} {i : Nat} (h : L.length = sz) (h2 : i * sz ≤ cs.length) : el (upEl cs sz i L) sz i = L := by
  unfold el upEl
  rw [List.append_assoc, List.drop_left' (by rw [List.length_take]; omega), List.take_left' h]
theorem up_up {cs L L' : List Tr} {i : Nat} (h : L.length = sz) (h2 : i * sz ≤ cs.length) : upEl (upEl cs sz i L) sz i L' = upEl cs sz i L' := by
  unfold upEl
  have e : (cs.take (i * sz)).length = i * sz := by rw [List.length_take]; omega
  congr 1
  · congr 1
    rw [List.append_assoc, List.take_left' e]
  · rw [List.append_assoc, ← List.drop_drop, List.drop_left' e, List.drop_left' h]
theorem fl_plain (hp : ∀ a, Tr.plainL (c a)) : ∀ l : List α, Tr.plainL (l.flatMap c)
  | [] => trivial
  | a :: l => by
    rw [List.flatMap_cons]
    have : ∀ xs ys : List Tr, Tr.plainL xs → Tr.plainL ys → Tr.plainL (xs ++ ys) := by
      intro xs
      induction xs with
      | nil => intro ys _ h; exact h
      | cons x xs ih => intro ys h k; exact ⟨h.1, ih ys h.2 k⟩
    exact this _ _ (hp a) (fl_plain hp l)
theorem getD_set_same {l : List α} {i : Nat} {x z : α} (h : i < l.length) : (l.set i x).getD i z = x := by
  simp [List.getD_eq_getElem?_getD, h]
theorem take_set_succ {l : List α} {i : Nat} {x : α} (h : i < l.length) : (l.set i x).take (i + 1) = l.take i ++ [x] := by
  rw [List.set_eq_take_append_cons_drop, if_pos h, List.take_append, List.length_take, Nat.min_eq_left (by omega), List.take_take, Nat.min_eq_right (by omega)]
  simp
theorem take_succ_getD {l : List α} {i : Nat} {z : α} (h : i < l.length) : l.take (i + 1) = l.take i ++ [l.getD i z] := by
  simp [List.getD_eq_getElem?_getD, h]
end
theorem upEl_bi {l : List UInt8} {i x : Int} (h : 0 ≤ i ∧ i < (l.length : Int)) : upEl (bT l) 1 i.toNat [Tr.int .u8 (IntKind.u8.wrap x)] = bT (l.set i.toNat (ub x)) := by
  rw [wrap_ub]; exact upEl_b (by omega)
/-- bytes that are marked: k, k + 1, .. -/
def markL (k : Int) (n : Nat) : List UInt8 := (List.range n).map fun (i : Nat) => ub (k + (i : Int))
@[simp] theorem markL_len (k : Int) (n : Nat) : (markL k n).length = n := by simp [markL]
theorem markL_succ (k : Int) (n : Nat) : markL k (n + 1) = markL k n ++ [ub (k + (n : Int))] := by
  unfold markL; rw [List.range_succ, List.map_append]; rfl
theorem markL_get {k : Int} {n i : Nat} (h : i < n) : (markL k n).getD i 0 = ub (k + (i : Int)) := by
  unfold markL; simp [List.getD_eq_getElem?_getD, h]
theorem mark_step {l : List UInt8} {k : Int} {i : Nat} (h : i < l.length) : (markL k i ++ l.drop i).set i (ub (k + (i : Int))) = markL k (i + 1) ++ l.drop (i + 1) := by
  rw [List.set_append_right _ _ (by rw [markL_len]; exact Nat.le_refl _), markL_len, Nat.sub_self, List.drop_eq_getElem_cons h, List.set_cons_zero, markL_succ, List.append_assoc]
  rfl
end Go.AM
