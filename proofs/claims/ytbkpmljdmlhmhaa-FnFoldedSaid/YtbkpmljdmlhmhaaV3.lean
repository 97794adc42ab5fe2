import Derived.Test.YtbkpmljdmlhmhaaV2
namespace Go.Proofs.Ytbkpmljdmlhmhaa
open Go Go.AM Ty
theorem pos_left {l : List Upp} {id : ByteArray} : ∀ x ∈ l.take (posM id l), Op.bytesLess x.s.toList id.toList = true := fun x hx => by
  obtain ⟨j, hj, rfl⟩ := List.getElem_of_mem hx
  rw [List.length_take] at hj
  have := pos_lt id l j (by omega)
  rw [List.getD_eq_getElem?_getD, List.getElem?_eq_getElem (by omega)] at this
  rw [List.getElem_take]
  exact this
theorem pos_right {l : List Upp} {id : ByteArray} (hs : Srt l) (h : hasM id l = false) : ∀ x ∈ l.drop (posM id l), Op.bytesLess id.toList x.s.toList = true := fun x hx => by
  obtain ⟨j, hj, rfl⟩ := List.getElem_of_mem hx
  rw [List.length_drop] at hj
  have := past_lt hs h (j := posM id l + j) (by omega) (by omega)
  rw [List.getD_eq_getElem?_getD, List.getElem?_eq_getElem (by omega)] at this
  rw [List.getElem_drop]
  exact this
theorem srt_ins {l : List Upp} {u : Upp} (hs : Srt l) (h : hasM u.s l = false) : Srt (l.take (posM u.s l) ++ u :: l.drop (posM u.s l)) := by
  have h1 := hs
  unfold Srt at h1 ⊢
  rw [← List.take_append_drop (posM u.s l) l] at h1
  rw [List.pairwise_append] at h1 ⊢
  obtain ⟨a, b, c⟩ := h1
  refine ⟨a, List.pairwise_cons.2 ⟨pos_right hs h, b⟩, fun x hx y hy => ?_⟩
  rcases List.mem_cons.1 hy with e | e
  · rw [e]; exact pos_left x hx
  · exact c x hx y e
theorem srt_set {l : List Upp} {i : Nat} {u : Upp} (hs : Srt l) (h : u.s = (l.getD i zeroU).s) : Srt (l.set i u) := by
  unfold Srt at hs ⊢
  rw [List.pairwise_iff_getElem] at hs ⊢
  have key : ∀ (j : Nat) (hj : j < (l.set i u).length), ((l.set i u)[j]).s = (l[j]'(by simpa using hj)).s := fun j hj => by
    rw [List.getElem_set]
    split
    · rename_i e
      subst e
      rw [h, List.getD_eq_getElem?_getD, List.getElem?_eq_getElem (by simpa using hj)]
      rfl
    · rfl
  intro a b ha hb hab
  rw [key a ha, key b hb]
  exact hs a b _ _ hab
theorem srt_erase {l : List Upp} {i : Nat} (hs : Srt l) : Srt (l.eraseIdx i) := List.Pairwise.sublist (List.eraseIdx_sublist l i) hs
/-- what a right record makes of uploads in order -/
def foldOne (l : List Upp) (r : Rc) : Option (List Upp) :=
  if r.k = 1 then (if hasM r.s l || decide (l.length ≥ 10) then none else some (l.take (posM r.s l) ++ ⟨r.s, r.n, [], false⟩ :: l.drop (posM r.s l)))
  else if hasM r.s l = false then none
  else if r.k = 2 then (if (l.getD (posM r.s l) zeroU).f || decide (r.n ≠ (l.getD (posM r.s l) zeroU).d.length) || decide (((l.getD (posM r.s l) zeroU).d.length + r.d.length : Nat) > (l.getD (posM r.s l) zeroU).w) then none else some (l.set (posM r.s l) ⟨(l.getD (posM r.s l) zeroU).s, (l.getD (posM r.s l) zeroU).w, (l.getD (posM r.s l) zeroU).d ++ r.d, (l.getD (posM r.s l) zeroU).f⟩))
  else if r.k = 3 then (if (l.getD (posM r.s l) zeroU).f || decide (((l.getD (posM r.s l) zeroU).d.length : Int) ≠ (l.getD (posM r.s l) zeroU).w) then none else some (l.set (posM r.s l) ⟨(l.getD (posM r.s l) zeroU).s, (l.getD (posM r.s l) zeroU).w, (l.getD (posM r.s l) zeroU).d, true⟩))
  else if r.k = 4 then some (l.eraseIdx (posM r.s l)) else none
theorem fold_one {l : List Upp} (r : Rc) (hs : Srt l) : foldOne l r = oneM l r := by
  unfold foldOne oneM
  by_cases h1 : r.k = 1
  · rw [if_pos h1, if_pos h1]
    cases h : hasM r.s l with
    | true =>
      rw [has_some h]
      rfl
    | false =>
      rw [has_none hs h]
      by_cases h2 : l.length < 10
      · rw [if_neg (by simp; omega), if_pos (by simp; omega)]
        unfold makeM
        rw [ins_pos hs h _ (pos_le _ _) (Nat.le_refl _)]
      · rw [if_pos (by simp; omega), if_neg (by simp; omega)]
  · rw [if_neg h1, if_neg h1]
    cases h : hasM r.s l with
    | true =>
      rw [has_some h, if_neg Bool.noConfusion]
    | false =>
      rw [has_none hs h]
      rfl
theorem srt_one {l l' : List Upp} {r : Rc} (hs : Srt l) (h : oneM l r = some l') : Srt l' := by
  rw [← fold_one r hs] at h
  unfold foldOne at h
  split at h
  · split at h
    · cases h
    · rename_i h1
      injection h with h
      subst h
      simp only [Bool.or_eq_true, not_or, Bool.not_eq_true] at h1
      exact srt_ins (u := ⟨r.s, r.n, [], false⟩) hs h1.1
  · split at h
    · cases h
    · split at h
      · split at h
        · cases h
        · injection h with h
          subst h
          exact srt_set hs rfl
      · split at h
        · split at h
          · cases h
          · injection h with h
            subst h
            exact srt_set hs rfl
        · split at h
          · injection h with h
            subst h
            exact srt_erase hs
          · cases h
end Go.Proofs.Ytbkpmljdmlhmhaa
