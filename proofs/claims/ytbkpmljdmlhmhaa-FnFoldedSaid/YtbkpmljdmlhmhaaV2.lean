import Derived.Test.YtbkpmljdmlhmhaaV1
namespace Go.Proofs.Ytbkpmljdmlhmhaa
open Go Go.AM Ty
theorem pos_le (id : ByteArray) : ∀ l : List Upp, posM id l ≤ l.length
  | [] => Nat.le_refl _
  | u :: us => by
    unfold posM
    have := pos_le id us
    split
    · simp only [List.length_cons]; omega
    · exact Nat.zero_le _
theorem pos_lt (id : ByteArray) : ∀ (l : List Upp) (j : Nat), j < posM id l → Op.bytesLess (l.getD j zeroU).s.toList id.toList = true
  | [], j, h => by simp [posM] at h
  | u :: us, j, h => by
    unfold posM at h
    split at h
    · rename_i h1
      cases j with
      | zero => exact h1
      | succ j => exact pos_lt id us j (by omega)
    · omega
theorem pos_at (id : ByteArray) : ∀ l : List Upp, posM id l < l.length → Op.bytesLess (l.getD (posM id l) zeroU).s.toList id.toList = false
  | [], h => by simp at h
  | u :: us, h => by
    unfold posM at h ⊢
    split
    · rename_i h1
      rw [if_pos h1] at h
      exact pos_at id us (by simp only [List.length_cons] at h; omega)
    · rename_i h1
      simpa using h1
theorem srt_lt {l : List Upp} (h : Srt l) {i j : Nat} (hij : i < j) (hj : j < l.length) : Op.bytesLess (l.getD i zeroU).s.toList (l.getD j zeroU).s.toList = true := by
  have := List.pairwise_iff_getElem.1 h i j (by omega) hj hij
  rw [List.getD_eq_getElem?_getD, List.getD_eq_getElem?_getD, List.getElem?_eq_getElem (by omega), List.getElem?_eq_getElem hj]
  exact this
theorem bl_ne {x y : List UInt8} (h : Op.bytesLess x y = true) : (x == y) = false := by
  rw [beq_eq_false_iff_ne]
  rintro rfl
  rw [bl_irr] at h
  cases h
theorem bl_ne' {x y : List UInt8} (h : Op.bytesLess x y = true) : (y == x) = false := by
  rw [beq_eq_false_iff_ne]
  rintro rfl
  rw [bl_irr] at h
  cases h
theorem has_some {l : List Upp} {id : ByteArray} (h : hasM id l = true) : idxM l id = some (posM id l) := by
  unfold hasM at h
  rw [Bool.and_eq_true, decide_eq_true_eq] at h
  exact idx_some h.1 (fun j hj => bl_ne (pos_lt id l j hj)) h.2
theorem past_lt {l : List Upp} {id : ByteArray} (hs : Srt l) (h : hasM id l = false) {j : Nat} (hp : posM id l ≤ j) (hj : j < l.length) : Op.bytesLess id.toList (l.getD j zeroU).s.toList = true := by
  unfold hasM at h
  have hpl : posM id l < l.length := by omega
  rw [decide_eq_true hpl, Bool.true_and] at h
  have h1 := bl_tot (pos_at id l hpl) (by simpa [idP] using h)
  rcases Nat.eq_or_lt_of_le hp with e | e
  · rw [← e]; exact h1
  · exact bl_trans h1 (srt_lt hs e hj)
theorem has_none {l : List Upp} {id : ByteArray} (hs : Srt l) (h : hasM id l = false) : idxM l id = none :=
  idx_none fun j hj => by
    rcases Nat.lt_or_ge j (posM id l) with h1 | h1
    · exact bl_ne (pos_lt id l j h1)
    · exact bl_ne' (past_lt hs h h1 hj)
theorem ins_pos {l : List Upp} {id : ByteArray} (hs : Srt l) (h : hasM id l = false) : ∀ k, posM id l ≤ k → k ≤ l.length → insK l id k = posM id l
  | 0, h1, _ => by unfold insK; omega
  | k + 1, h1, h2 => by
    unfold insK
    rcases Nat.eq_or_lt_of_le h1 with e | e
    · rw [pos_lt id l k (by omega), Bool.true_or]
      exact e.symm
    · have h3 := past_lt hs h (j := k) (by omega) (by omega)
      have h4 : Op.bytesLess (l.getD k zeroU).s.toList id.toList = false := by
        cases h5 : Op.bytesLess (l.getD k zeroU).s.toList id.toList with
        | false => rfl
        | true => have := bl_trans h3 h5; rw [bl_irr] at this; cases this
      rw [h4, Bool.false_or, bl_ne' h3]
      exact ins_pos hs h k (by omega) (by omega)
end Go.Proofs.Ytbkpmljdmlhmhaa
