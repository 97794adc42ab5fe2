/- The law FnExactPutRec answers true at every record: the program's PutRec is the reference's. For every input; no condition. -/
import Derived.Test.YtadjcmipkbjkiaaSFnExactPutRec
namespace Go.Proofs.Ytadjcmipkbjkiaa.Pure
open Go.RowKit Go.Proofs.Ytadjcmipkbjkiaa.QFnExactPutRec Go.Proofs.YtadjcmipkbjkiaaW.PrintWords Go.Proofs.YtadjcmipkbjkiaaW.PrintLast Go.Proofs.YtadjcmipkbjkiaaW.PrintOpen
set_option linter.unusedVariables false
set_option linter.unusedSimpArgs false
theorem w64 {x : Int} (h0 : -9223372036854775808 ≤ x) (h1 : x ≤ 9223372036854775807) : wrap64 x = x := by unfold wrap64; omega
theorem wi {n m : Nat} (h : n < m) (hm : m ≤ 9223372036854775807) : wrap64 ((n : Int) + 1) = ((n + 1 : Nat) : Int) := by unfold wrap64; omega
theorem rdOf_mid {α : Type} (d : α) (p : List α) (s : α) (q : List α) : rdOf d (p ++ s :: q) (p.length : Int) = s := by simp [rdOf]
theorem set_mid {α : Type} (p : List α) (s v : α) (q : List α) : (p ++ s :: q).set ((p.length : Int)).toNat v = p ++ v :: q := by simp
theorem len_mid {α : Type} (p : List α) (s : α) (q : List α) : (p.length : Int) < ((p ++ s :: q).length : Int) := by simp; omega
theorem len_end {α : Type} (p : List α) : ¬ (p.length : Int) < ((p ++ []).length : Int) := by simp
theorem nn (n : Nat) : 0 ≤ (n : Int) := by omega
theorem rdOf_at {α : Type} (d : α) {p : List α} {s : α} {q : List α} {n : Nat} (h : p.length = n) : rdOf d (p ++ s :: q) (n : Int) = s := by subst h; exact rdOf_mid d p s q
theorem set_at {α : Type} {p : List α} {s v : α} {q : List α} {n : Nat} (h : p.length = n) : (p ++ s :: q).set ((n : Int)).toNat v = p ++ v :: q := by subst h; exact set_mid p s v q
theorem lt_at {α : Type} {p : List α} {s : α} {q : List α} {n : Nat} (h : p.length = n) : (n : Int) < ((p ++ s :: q).length : Int) := by subst h; exact len_mid p s q
theorem end_at {α : Type} {p : List α} {n : Nat} (h : p.length = n) : ¬ (n : Int) < ((p ++ []).length : Int) := by subst h; exact len_end p
theorem len_same {α : Type} {p p' q q' : List α} (h : p.length = p'.length) (h2 : q.length = q'.length) : (p ++ q).length = (p' ++ q').length := by simp [h, h2]
theorem rd_mid (p : List Int) (s : Int) (q : List Int) : rd (p ++ s :: q) (p.length : Int) = s := by simp [rd]
theorem rd_at {p : List Int} {s : Int} {q : List Int} {n : Nat} (h : p.length = n) : rd (p ++ s :: q) (n : Int) = s := by subst h; exact rd_mid p s q
theorem inR_f (a b c : Int) : impl_inRange.f a b c = some (decide (b ≤ a ∧ a ≤ c)) := by
  unfold impl_inRange.f
  by_cases h : a ≥ b
  · rw [if_pos h]; simp [show b ≤ a from h]
  · rw [if_neg h]; simp [show ¬ b ≤ a from h]
theorem l1In_f (a b c : Int) : spec_l1In.f a b c = some (decide (b ≤ a ∧ a ≤ c)) := by
  unfold spec_l1In.f
  by_cases h : a ≥ b
  · rw [if_pos h]; simp [show b ≤ a from h]
  · rw [if_neg h]; simp [show ¬ b ≤ a from h]
theorem bt_lo (s : ByteArray) (i : Int) : 0 ≤ bt s i := by unfold bt; split <;> omega
theorem bt_hi (s : ByteArray) (i : Int) : bt s i ≤ 255 := by
  unfold bt
  split
  · have := (s[i.toNat]).toNat_lt; omega
  · omega
theorem id_l0 (s : ByteArray) (d : Nat) : ∀ (n k : Nat), n + d = s.size → s.size ≤ 9223372036854775807 → d < k → ∃ r, impl_idOk.l0 k s (n : Int) = some r ∧ spec_l11Id.l0 k s (n : Int) = some r := by
  induction d with
  | zero =>
    intro n k hn hs hk
    obtain ⟨k, rfl⟩ : ∃ m, k = m + 1 := ⟨k - 1, by omega⟩
    simp only [impl_idOk.l0, spec_l11Id.l0]
    rw [if_neg (by omega), if_neg (by omega), inR_f, l1In_f]
    exact ⟨_, rfl, rfl⟩
  | succ d ih =>
    intro n k hn hs hk
    obtain ⟨k, rfl⟩ : ∃ m, k = m + 1 := ⟨k - 1, by omega⟩
    obtain ⟨r, hr, hr2⟩ := ih (n + 1) k (by omega) hs (by omega)
    have h0 := bt_lo s n
    have h1 := bt_hi s n
    simp only [impl_idOk.l0, spec_l11Id.l0]
    have hl : (n : Int) < (s.size : Int) := by omega
    rw [if_pos hl, if_pos (nn n), if_pos hl, if_pos (nn n), w64 (x := bt s n) (by omega) (by omega), wi (m := s.size) (by omega) hs, hr, hr2, l1In_f, l1In_f]
    simp only [Option.bind_some, decide_eq_true_eq]
    by_cases c1 : 97 ≤ bt s n <;> by_cases c2 : bt s n ≤ 122 <;> by_cases c3 : 48 ≤ bt s n <;> by_cases c4 : bt s n ≤ 57 <;> first | omega | (simp [c1, c2, c3, c4])
theorem id_f (s : ByteArray) (k : Nat) (hs : s.size ≤ 9223372036854775807) (hk : s.size < k) : ∃ r, impl_idOk.f k s = some r ∧ spec_l11Id.f k s = some r := by
  unfold impl_idOk.f spec_l11Id.f
  exact id_l0 s s.size 0 k (by omega) hs hk
theorem toB_l0 (q : List Int) : ∀ (p z : List Int) (k : Nat), q.length < k → (p ++ q).length ≤ 9223372036854775807 → z.length = q.length → laws_toByteS.l0 k (p ++ q) (p ++ z) (p.length : Int) = some (p ++ q) := by
  induction q with
  | nil =>
    intro p z k hk _ hz
    obtain ⟨k, rfl⟩ : ∃ m, k = m + 1 := ⟨k - 1, by simp at hk; omega⟩
    obtain rfl : z = [] := List.length_eq_zero_iff.mp (by simpa using hz)
    simp only [laws_toByteS.l0]
    rw [if_neg (len_end p)]
  | cons s q ih =>
    intro p z k hk hl hz
    obtain ⟨k, rfl⟩ : ∃ m, k = m + 1 := ⟨k - 1, by simp at hk; omega⟩
    obtain ⟨y, z, rfl⟩ : ∃ y z', z = y :: z' := by cases z with | nil => simp at hz | cons y z => exact ⟨y, z, rfl⟩
    simp only [laws_toByteS.l0]
    rw [if_pos (len_mid p s q), if_pos (nn _), if_pos (len_mid p y z), rd_mid, set_mid, wi (m := (p ++ s :: q).length) (by simp <;> omega) hl]
    have := ih (p ++ [s]) z k (by simp at hk; omega) (by simpa using hl) (by simpa using hz)
    simpa using this
theorem toB_f (l : List Int) (k : Nat) (hk : l.length < k) (hl : l.length ≤ 1048576) : laws_toByteS.f k l = some l := by
  unfold laws_toByteS.f
  rw [if_pos (nn _), if_pos (by simp <;> omega)]
  have := toB_l0 l [] (List.replicate l.length 0) k hk (by simp <;> omega) (by simp)
  simpa using this
theorem eqB_l0 (q : List Int) : ∀ (p : List Int) (k : Nat), q.length < k → (p ++ q).length ≤ 9223372036854775807 → laws_eqByteS.l0 k (p ++ q) (p ++ q) (p.length : Int) = some true := by
  induction q with
  | nil =>
    intro p k hk _
    obtain ⟨k, rfl⟩ : ∃ m, k = m + 1 := ⟨k - 1, by simp at hk; omega⟩
    simp only [laws_eqByteS.l0]
    rw [if_neg (len_end p)]
  | cons s q ih =>
    intro p k hk hl
    obtain ⟨k, rfl⟩ : ∃ m, k = m + 1 := ⟨k - 1, by simp at hk; omega⟩
    simp only [laws_eqByteS.l0]
    rw [if_pos (len_mid p s q), if_pos (nn _), if_pos (len_mid p s q), if_pos trivial, wi (m := (p ++ s :: q).length) (by simp <;> omega) hl]
    have := ih (p ++ [s]) k (by simp at hk; omega) (by simpa using hl)
    simpa using this
theorem eqB_f (l : List Int) (k : Nat) (hk : l.length < k) (hl : l.length ≤ 1048576) : laws_eqByteS.f k l l = some true := by
  unfold laws_eqByteS.f
  rw [if_pos rfl]
  simpa using eqB_l0 l [] k hk (by simp <;> omega)
theorem j0_same (k : Nat) (x : Bool) (a b c : Int) (s : ByteArray) (n : Int) (l : List Int) (hk : 0 < k) (h : c = 1 ∨ c = 2 ∨ c = 3 ∨ c = 4 ∨ x = true) : ∃ r, impl_RecOk.j0 k x a b c s n l = some r ∧ spec_RecOk.j0 k x a b c s n l = some r := by
  obtain ⟨k, rfl⟩ : ∃ m, k = m + 1 := ⟨k - 1, by omega⟩
  simp only [impl_RecOk.j0, spec_RecOk.j0, inR_f, l1In_f, Option.bind_some]
  cases x
  · have h : c = 1 ∨ c = 2 ∨ c = 3 ∨ c = 4 := by simpa using h
    by_cases hh : 0 ≤ n ∧ n ≤ 1000000000 <;> by_cases h0 : n = 0 <;> rcases h with h | h | h | h <;> subst h <;>
      simp only [hh, h0, Bool.false_eq_true, if_false, if_true, Int.reduceEq, decide_eq_true_eq] <;> exact ⟨_, rfl, rfl⟩
  · exact ⟨false, by simp, by simp⟩
theorem ok_f (k : Nat) (a b c : Int) (s : ByteArray) (n : Int) (l : List Int) (hs : s.size ≤ 9223372036854775807) (hk : s.size < k) : ∃ r, impl_RecOk.f k a b c s n l = some r ∧ spec_RecOk.f k a b c s n l = some r := by
  obtain ⟨r, hr, hr2⟩ := id_f s k hs hk
  unfold impl_RecOk.f spec_RecOk.f impl_isEpoch.f
  simp only [inR_f, l1In_f, Option.bind_some, hr, hr2, decide_eq_true_eq]
  by_cases ca : 0 ≤ a ∧ a ≤ 10000
  · by_cases cb : 0 ≤ b ∧ b ≤ 199
    · simp only [ca, cb, and_self, if_true]
      by_cases cc : 1 ≤ c ∧ c ≤ 4
      · simp only [cc, and_self, if_true]
        exact j0_same k _ a b c s n l (by omega) (by omega)
      · simp only [cc, if_false]
        obtain ⟨k, rfl⟩ : ∃ m, k = m + 1 := ⟨k - 1, by omega⟩
        refine ⟨false, by simp [impl_RecOk.j0], ?_⟩
        simp only [spec_RecOk.j0, l1In_f, Option.bind_some]
        rw [if_neg (show ¬ c = 1 by omega), if_neg (show ¬ c = 2 by omega), if_neg (show ¬ c = 3 by omega), if_neg (show ¬ c = 4 by omega)]
        cases r <;> simp
    · simp only [ca, cb, and_self, if_true, if_false]
      exact j0_same k _ a b c s n l (by omega) (by simp)
  · simp only [ca, if_false]
    exact j0_same k _ a b c s n l (by omega) (by simp)
theorem ofInt_nat (w x : Nat) (h : x < 2 ^ w) : (BitVec.ofInt w (x : Int)).toNat = x := by
  rw [BitVec.toNat_ofInt]
  have : ((x : Int) % ((2 ^ w : Nat) : Int)) = ((x % 2 ^ w : Nat) : Int) := by omega
  rw [this, Nat.mod_eq_of_lt h]; simp
theorem xor64 (x y : Nat) (hx : x < 2 ^ 32) (hy : y < 2 ^ 32) : Go.bits .xor .i64 (x : Int) (y : Int) = ((x ^^^ y : Nat) : Int) := by
  have h := Nat.xor_lt_two_pow hx hy
  show IntKind.i64.wrap (((BitVec.ofInt 64 (x : Int)) ^^^ (BitVec.ofInt 64 (y : Int))).toNat : Nat) = _
  rw [BitVec.toNat_xor, ofInt_nat 64 x (by omega), ofInt_nat 64 y (by omega), IntKind.wrap_i64]
  omega
theorem xor32 (x y : Nat) (hx : x < 2 ^ 32) (hy : y < 2 ^ 32) : Go.bits .xor .u32 (x : Int) (y : Int) = ((x ^^^ y : Nat) : Int) := by
  have h := Nat.xor_lt_two_pow hx hy
  show IntKind.u32.wrap (((BitVec.ofInt 32 (x : Int)) ^^^ (BitVec.ofInt 32 (y : Int))).toNat : Nat) = _
  rw [BitVec.toNat_xor, ofInt_nat 32 x hx, ofInt_nat 32 y hy, IntKind.wrap_u32]
  omega
theorem and64 (x : Nat) (hx : x < 2 ^ 32) : Go.bits .and .i64 (x : Int) 1 = ((x &&& 1 : Nat) : Int) := by
  have h := Nat.and_lt_two_pow x (show 1 < 2 ^ 1 by decide)
  show IntKind.i64.wrap (((BitVec.ofInt 64 (x : Int)) &&& (BitVec.ofInt 64 ((1 : Nat) : Int))).toNat : Nat) = _
  rw [BitVec.toNat_and, ofInt_nat 64 x (by omega), ofInt_nat 64 1 (by decide), IntKind.wrap_i64]
  omega
theorem and32 (x : Nat) (hx : x < 2 ^ 32) : Go.bits .and .u32 (x : Int) 1 = ((x &&& 1 : Nat) : Int) := by
  have h := Nat.and_lt_two_pow x (show 1 < 2 ^ 1 by decide)
  show IntKind.u32.wrap (((BitVec.ofInt 32 (x : Int)) &&& (BitVec.ofInt 32 ((1 : Nat) : Int))).toNat : Nat) = _
  rw [BitVec.toNat_and, ofInt_nat 32 x hx, ofInt_nat 32 1 (by decide), IntKind.wrap_u32]
  omega
def cstep (x : Nat) : Nat := if x &&& 1 = 1 then (x / 2) ^^^ 2197175160 else x / 2
def cbit : Nat → Nat → Nat
  | 0, x => x
  | n + 1, x => cbit n (cstep x)
def crcN : Nat → List Int → Nat
  | x, [] => x
  | x, b :: l => crcN (cbit 8 (x ^^^ b.toNat)) l
theorem cstep_lt (x : Nat) (h : x < 2 ^ 32) : cstep x < 2 ^ 32 := by
  unfold cstep
  split
  · exact Nat.xor_lt_two_pow (by omega) (by decide)
  · omega
theorem cbit_lt : ∀ (n x : Nat), x < 2 ^ 32 → cbit n x < 2 ^ 32
  | 0, _, h => h
  | n + 1, x, h => cbit_lt n _ (cstep_lt x h)
theorem sC_l1 (L : List Int) (i : Int) : ∀ (d x k : Nat), d ≤ 8 → x < 2 ^ 32 → spec_Crc.l1 (k + d + 1) L (x : Int) i (8 - (d : Int)) = spec_Crc.l0 k L (cbit d x : Nat) (wrap64 (i + 1)) := by
  intro d
  induction d with
  | zero => intro x k _ _; simp [spec_Crc.l1, cbit]
  | succ d ih =>
    intro x k hd hx
    have e := ih (cstep x) k (by omega) (cstep_lt x hx)
    rw [show k + (d + 1) + 1 = (k + d + 1) + 1 by omega]
    generalize k + d + 1 = m at e ⊢
    simp only [spec_Crc.l1]
    rw [if_pos (by omega), and64 x hx, show wrap64 (8 - ((d + 1 : Nat) : Int) + 1) = 8 - (d : Int) by rw [w64 (by omega) (by omega)]; omega]
    simp only [cbit]
    rw [← e]
    unfold cstep
    by_cases c : x &&& 1 = 1
    · rw [if_pos c, if_pos (by rw [c]; rfl), show ((x : Int) / 2) = ((x / 2 : Nat) : Int) by omega, show (2197175160 : Int) = ((2197175160 : Nat) : Int) from rfl, xor64 _ _ (by omega) (by decide)]
    · rw [if_neg c, if_neg (by omega), show ((x : Int) / 2) = ((x / 2 : Nat) : Int) by omega]
theorem iC_l1 (L : List Int) (n i : Int) : ∀ (d x k : Nat), d ≤ 8 → x < 2 ^ 32 → impl_Crc.l1 (k + d + 1) (x : Int) L n i (8 - (d : Int)) = impl_Crc.l0 k (cbit d x : Nat) L n (wrap64 (i + 1)) := by
  intro d
  induction d with
  | zero => intro x k _ _; simp [impl_Crc.l1, cbit]
  | succ d ih =>
    intro x k hd hx
    have e := ih (cstep x) k (by omega) (cstep_lt x hx)
    rw [show k + (d + 1) + 1 = (k + d + 1) + 1 by omega]
    generalize k + d + 1 = m at e ⊢
    simp only [impl_Crc.l1]
    rw [if_pos (by omega), and32 x hx, show wrap64 (8 - ((d + 1 : Nat) : Int) + 1) = 8 - (d : Int) by rw [w64 (by omega) (by omega)]; omega]
    simp only [cbit]
    rw [← e]
    unfold cstep
    by_cases c : x &&& 1 = 1
    · rw [if_pos c, if_pos (by rw [c]; rfl), show ((x : Int) / 2) = ((x / 2 : Nat) : Int) by omega, show (2197175160 : Int) = ((2197175160 : Nat) : Int) from rfl, xor32 _ _ (by omega) (by decide)]
    · rw [if_neg c, if_neg (by omega), show ((x : Int) / 2) = ((x / 2 : Nat) : Int) by omega]
def Byt (l : List Int) : Prop := ∀ x ∈ l, 0 ≤ x ∧ x ≤ 255
theorem sC_l0 (q : List Int) : ∀ (p : List Int) (x k : Nat), 10 * q.length < k → (p ++ q).length ≤ 1000000000 → Byt q → x < 2 ^ 32 → spec_Crc.l0 k (p ++ q) (x : Int) (p.length : Int) = some ((crcN x q ^^^ 4294967295 : Nat) : Int) := by
  induction q with
  | nil =>
    intro p x k hk _ _ hx
    obtain ⟨k, rfl⟩ : ∃ m, k = m + 1 := ⟨k - 1, by simp at hk; omega⟩
    simp only [spec_Crc.l0]
    rw [if_neg (len_end p), show (4294967295 : Int) = ((4294967295 : Nat) : Int) from rfl, xor64 x _ hx (by decide)]; rfl
  | cons s q ih =>
    intro p x k hk hl hb hx
    obtain ⟨k, rfl⟩ : ∃ m, k = (m + 8 + 1) + 1 := ⟨k - 10, by simp at hk; omega⟩
    have hs := hb s (by simp)
    simp only [spec_Crc.l0]
    rw [if_pos (len_mid p s q), if_pos (nn _), rd_mid, w64 (by omega) (by omega), show s = ((s.toNat : Nat) : Int) by omega, xor64 x _ hx (by omega)]
    have e := sC_l1 (p ++ s :: q) (p.length : Int) 8 (x ^^^ s.toNat) k (by omega) (Nat.xor_lt_two_pow hx (by omega))
    rw [show ((8 : Int) - ((8 : Nat) : Int)) = 0 by omega] at e
    rw [show s = ((s.toNat : Nat) : Int) by omega] at e
    simp only [Int.toNat_natCast] at e
    rw [e, wi (m := (p ++ s :: q).length) (by simp <;> omega) (by simp at hl ⊢; omega)]
    have h := ih (p ++ [s]) (cbit 8 (x ^^^ s.toNat)) k (by simp at hk; omega) (by simpa using hl) (fun y hy => hb y (by simp [hy])) (cbit_lt _ _ (Nat.xor_lt_two_pow hx (by omega)))
    have hs2 : ((s.toNat : Nat) : Int) = s := by omega
    simp only [crcN, hs2]
    simpa using h
theorem iC_l0 (q : List Int) : ∀ (p : List Int) (x k : Nat), 10 * q.length < k → (p ++ q).length ≤ 1000000000 → Byt q → x < 2 ^ 32 → impl_Crc.l0 k (x : Int) (p ++ q) ((p ++ q).length : Int) (p.length : Int) = some ((crcN x q ^^^ 4294967295 : Nat) : Int) := by
  induction q with
  | nil =>
    intro p x k hk _ _ hx
    obtain ⟨k, rfl⟩ : ∃ m, k = m + 1 := ⟨k - 1, by simp at hk; omega⟩
    have h := Nat.xor_lt_two_pow (show (4294967295 : Nat) < 2 ^ 32 by decide) hx
    simp only [impl_Crc.l0]
    rw [if_neg (len_end p), show (4294967295 : Int) = ((4294967295 : Nat) : Int) from rfl, xor32 _ x (by decide) hx, w64 (by omega) (by omega), Nat.xor_comm]; rfl
  | cons s q ih =>
    intro p x k hk hl hb hx
    obtain ⟨k, rfl⟩ : ∃ m, k = (m + 8 + 1) + 1 := ⟨k - 10, by simp at hk; omega⟩
    have hs := hb s (by simp)
    simp only [impl_Crc.l0]
    rw [if_pos (len_mid p s q), if_pos (nn _), if_pos (len_mid p s q), rd_mid, Int.emod_eq_of_lt (by omega) (by omega), show s = ((s.toNat : Nat) : Int) by omega, xor32 x _ hx (by omega)]
    have e := iC_l1 (p ++ s :: q) ((p ++ s :: q).length : Int) (p.length : Int) 8 (x ^^^ s.toNat) k (by omega) (Nat.xor_lt_two_pow hx (by omega))
    rw [show ((8 : Int) - ((8 : Nat) : Int)) = 0 by omega] at e
    rw [show s = ((s.toNat : Nat) : Int) by omega] at e
    simp only [Int.toNat_natCast] at e
    rw [e, wi (m := (p ++ s :: q).length) (by simp <;> omega) (by simp at hl ⊢; omega)]
    have h := ih (p ++ [s]) (cbit 8 (x ^^^ s.toNat)) k (by simp at hk; omega) (by simpa using hl) (fun y hy => hb y (by simp [hy])) (cbit_lt _ _ (Nat.xor_lt_two_pow hx (by omega)))
    have hs2 : ((s.toNat : Nat) : Int) = s := by omega
    simp only [crcN, hs2]
    simpa using h
def crcM (l : List Int) : Int := ((crcN 4294967295 l ^^^ 4294967295 : Nat) : Int)
theorem crcN_lt (l : List Int) : ∀ x, x < 2 ^ 32 → Byt l → crcN x l < 2 ^ 32 := by
  induction l with
  | nil => intro x h _; exact h
  | cons b l ih =>
    intro x h hb
    have := hb b (by simp)
    exact ih _ (cbit_lt _ _ (Nat.xor_lt_two_pow h (by omega))) (fun y hy => hb y (by simp [hy]))
theorem crcM_bd (l : List Int) (hb : Byt l) : 0 ≤ crcM l ∧ crcM l < 4294967296 := by
  have := Nat.xor_lt_two_pow (crcN_lt l 4294967295 (by decide) hb) (show (4294967295 : Nat) < 2 ^ 32 by decide)
  unfold crcM; omega
theorem sCrc_f (l : List Int) (k : Nat) (hk : 10 * l.length < k) (hl : l.length ≤ 1000000000) (hb : Byt l) : spec_Crc.f k l = some (crcM l) := by
  unfold spec_Crc.f
  simpa [crcM] using sC_l0 l [] 4294967295 k hk (by simpa using hl) hb (by decide)
theorem iCrc_f (l : List Int) (k : Nat) (hk : 10 * l.length < k) (hl : l.length ≤ 1000000000) (hb : Byt l) : impl_Crc.f k l = some (crcM l) := by
  unfold impl_Crc.f
  simpa [crcM] using iC_l0 l [] 4294967295 k hk (by simpa using hl) hb (by decide)
def pb (x : Int) : Nat → List Int
  | 0 => []
  | n + 1 => (shr .i64 x (IntKind.u64.wrap (wrap64 (8 * (n : Int))))) % 256 :: pb x n
theorem pb_len (x : Int) : ∀ n, (pb x n).length = n
  | 0 => rfl
  | n + 1 => by simp [pb, pb_len x n]
theorem pb_byt (x : Int) : ∀ n, ∀ y ∈ pb x n, 0 ≤ y ∧ y ≤ 255
  | 0, _, h => by simp [pb] at h
  | n + 1, y, h => by
    simp only [pb, List.mem_cons] at h
    rcases h with rfl | h
    · omega
    · exact pb_byt x n y h
theorem u64_nn (x : Int) : 0 ≤ IntKind.u64.wrap x := by rw [IntKind.wrap_u64]; omega
theorem iP_l0 (x : Int) : ∀ (n k : Nat) (l : List Int), n < 10 → n < k → l.length + n < 140737488355328 → impl_putBig.l0 k l x ((n : Int) - 1) = some (l ++ pb x n) := by
  intro n
  induction n with
  | zero =>
    intro k l _ hk _
    obtain ⟨k, rfl⟩ : ∃ m, k = m + 1 := ⟨k - 1, by omega⟩
    simp [impl_putBig.l0, pb]
  | succ n ih =>
    intro k l hn hk hl
    obtain ⟨k, rfl⟩ : ∃ m, k = m + 1 := ⟨k - 1, by omega⟩
    simp only [impl_putBig.l0]
    rw [if_pos (by omega), if_pos (u64_nn _), if_pos (by omega), show ((n + 1 : Nat) : Int) - 1 = (n : Int) by omega, w64 (x := (n : Int) - 1) (by omega) (by omega), ih k _ (by omega) (by omega) (by simp; omega)]
    simp [pb]
theorem sP_l0 (x : Int) : ∀ (n k : Nat) (l : List Int), n < 10 → n < k → l.length + n < 140737488355328 → spec_PutBig.l0 k x l ((n : Int) - 1) = some (l ++ pb x n) := by
  intro n
  induction n with
  | zero =>
    intro k l _ hk _
    obtain ⟨k, rfl⟩ : ∃ m, k = m + 1 := ⟨k - 1, by omega⟩
    simp [spec_PutBig.l0, pb]
  | succ n ih =>
    intro k l hn hk hl
    obtain ⟨k, rfl⟩ : ∃ m, k = m + 1 := ⟨k - 1, by omega⟩
    simp only [spec_PutBig.l0]
    rw [if_pos (by omega), if_pos (u64_nn _), if_pos (by omega), show ((n + 1 : Nat) : Int) - 1 = (n : Int) by omega, w64 (x := (n : Int) - 1) (by omega) (by omega), ih k _ (by omega) (by omega) (by simp; omega)]
    simp [pb]
theorem iP_f (l : List Int) (x : Int) (n k : Nat) (h1 : 1 ≤ n) (hn : n ≤ 8) (hk : 10 < k) (hl : l.length < 100000000) : impl_putBig.f k l x (n : Int) = some (l ++ pb (mx x 0) n) := by
  unfold impl_putBig.f
  rw [w64 (by omega) (by omega)]
  exact iP_l0 (mx x 0) n k l (by omega) (by omega) (by omega)
theorem sP_f (l : List Int) (x : Int) (n k : Nat) (h1 : 1 ≤ n) (hn : n ≤ 8) (hk : 12 < k) (hl : l.length < 100000000) : spec_PutBig.f k l x (n : Int) = some (l ++ pb (mx x 0) n) := by
  obtain ⟨k, rfl⟩ : ∃ m, k = m + 1 := ⟨k - 1, by omega⟩
  unfold spec_PutBig.f
  simp only [Option.bind_some, List.nil_append, spec_PutBig.j0, l1In_f]
  rw [if_pos (by simp; omega)]
  have hd : decide (1 ≤ (n : Int) ∧ (n : Int) ≤ 8) = true := by simp; omega
  simp only [hd, if_true]
  rw [w64 (by omega) (by omega), sP_l0 0 n k l (by omega) (by omega) (by omega), sP_l0 x n k l (by omega) (by omega) (by omega)]
  unfold mx
  by_cases c : x < 0
  · rw [if_pos c, if_pos c]
  · rw [if_neg c, if_neg c]
theorem bytesOf_byt (s : ByteArray) : Byt (bytesOf s) := by
  intro x hx
  unfold bytesOf at hx
  obtain ⟨b, _, rfl⟩ := List.mem_map.1 hx
  have := b.toNat_lt; omega
theorem Byt.app {a b : List Int} (h : Byt a) (k : Byt b) : Byt (a ++ b) := fun x hx => (List.mem_append.1 hx).elim (h x) (k x)
theorem bytesOf_len (s : ByteArray) : (bytesOf s).length = s.size := by unfold bytesOf; simp
theorem pb1 (x : Int) (h0 : 0 ≤ x) : pb (mx x 0) 1 = [x % 256] := by
  have hm : mx x 0 = x := by unfold mx; rw [if_neg (by omega)]
  have hs : shr .i64 x (IntKind.u64.wrap (wrap64 (8 * ((0 : Nat) : Int)))) = x := by
    rw [w64 (by omega) (by omega), IntKind.wrap_u64]; simp [shr]
  simp only [pb, hm, hs]
theorem recOk_bd (k : Nat) (a b c : Int) (s : ByteArray) (n : Int) (l : List Int) (hs : s.size ≤ 9223372036854775807) (hk : s.size < k) (h : spec_RecOk.f k a b c s n l = some true) : 1 ≤ c ∧ c ≤ 4 := by
  obtain ⟨k', rfl⟩ : ∃ m, k = m + 1 := ⟨k - 1, by omega⟩
  obtain ⟨r, hr, hr2⟩ := id_f s (k' + 1) hs hk
  unfold spec_RecOk.f at h
  simp only [l1In_f, Option.bind_some, hr2, decide_eq_true_eq] at h
  have J : ∀ x, spec_RecOk.j0 (k' + 1) x a b c s n l = some true → 1 ≤ c ∧ c ≤ 4 := by
    intro x hx
    simp only [spec_RecOk.j0, l1In_f, Option.bind_some] at hx
    cases x
    · by_cases c1 : c = 1
      · omega
      · by_cases c2 : c = 2
        · omega
        · by_cases c3 : c = 3
          · omega
          · by_cases c4 : c = 4
            · omega
            · simp [c1, c2, c3, c4] at hx
    · simp at hx
  split at h
  · split at h
    · exact J _ h
    · exact J _ h
  · exact J _ h
theorem FnExactPutRec : laws_FnExactPutRec.Pure := by
  intro a b c s n l ha hb hc hs hn hl
  refine ⟨20000000, ?_⟩
  generalize hk : 20000000 = k
  unfold laws_FnExactPutRec.f laws_szRec.f laws_szByteS.f
  have hs' : s.size ≤ 9223372036854775807 := by simpa [bdStr] using hs
  have hl' : l.length ≤ 9223372036854775807 := hl.1
  have hlb : Byt l := fun x hx => hl.2 x hx
  rw [w64 (by omega) (by omega)]
  by_cases c1 : (1048576 : Int) - (s.size : Int) < 0
  · rw [if_pos c1]; simp
  · rw [if_neg c1, w64 (by omega) (by omega)]
    by_cases c2 : (1048576 : Int) - (s.size : Int) - (l.length : Int) < 0
    · rw [if_pos c2]; simp
    · rw [if_neg c2]
      simp only [Option.bind_some]
      rw [if_neg c2]
      simp only [Option.bind_some]
      rw [if_neg c2]
      obtain ⟨r, hr, hr2⟩ := ok_f k a b c s n l hs' (by omega)
      have hT : laws_toRec.f k a b c s n l = some (a, b, c, s, n, l) := by
        unfold laws_toRec.f
        rw [toB_f l k (by omega) (by omega)]; rfl
      have hE : laws_eqRec.f k a b c s n l a b c s n l = some true := by
        unfold laws_eqRec.f
        simp [eqB_f l k (by omega) (by omega)]
      have hP : ∃ z, impl_PutRec.f k a b c s n l = some z ∧ spec_PutRec.f k a b c s n l = some z := by
        unfold impl_PutRec.f spec_PutRec.f
        rw [hr, hr2]
        simp only [Option.bind_some]
        cases r
        · exact ⟨_, rfl, rfl⟩
        · simp only [if_true]
          obtain ⟨k1, k4⟩ := recOk_bd k a b c s n l hs' (by omega) hr2
          have L3 := pb_len (mx a 0) 3
          have L2 := pb_len (mx b 0) 2
          have L4 := pb_len (mx n 0) 4
          have LS := bytesOf_len s
          have i1 := iP_f [] a 3 k (by omega) (by omega) (by omega) (by simp)
          have s1 := sP_f [] a 3 k (by omega) (by omega) (by omega) (by simp)
          simp only [List.nil_append] at i1 s1
          have i2 := iP_f (pb (mx a 0) 3) b 2 k (by omega) (by omega) (by omega) (by omega)
          have s2 := sP_f (pb (mx a 0) 3) b 2 k (by omega) (by omega) (by omega) (by omega)
          have s3 := sP_f (pb (mx a 0) 3 ++ pb (mx b 0) 2) c 1 k (by omega) (by omega) (by omega) (by simp; omega)
          rw [pb1 c (by omega)] at s3
          have s4 := sP_f (pb (mx a 0) 3 ++ pb (mx b 0) 2 ++ [c % 256]) (s.size : Int) 1 k (by omega) (by omega) (by omega) (by simp; omega)
          rw [pb1 _ (by omega)] at s4
          have s5 := sP_f (pb (mx a 0) 3 ++ pb (mx b 0) 2 ++ [c % 256] ++ [(s.size : Int) % 256] ++ bytesOf s) n 4 k (by omega) (by omega) (by omega) (by simp; omega)
          have i5 := iP_f (pb (mx a 0) 3 ++ pb (mx b 0) 2 ++ [c % 256] ++ [(s.size : Int) % 256] ++ bytesOf s) n 4 k (by omega) (by omega) (by omega) (by simp; omega)
          generalize hA : pb (mx a 0) 3 ++ pb (mx b 0) 2 ++ [c % 256] ++ [(s.size : Int) % 256] ++ bytesOf s ++ pb (mx n 0) 4 = A at s5 i5
          have LA : A.length = 11 + s.size := by rw [← hA]; simp; omega
          have s6 := sP_f A (l.length : Int) 1 k (by omega) (by omega) (by omega) (by omega)
          rw [pb1 _ (by omega)] at s6
          have hbA : Byt (A ++ [(l.length : Int) % 256] ++ l) := by
            rw [← hA]
            refine Byt.app (Byt.app (Byt.app (Byt.app (Byt.app (Byt.app (Byt.app ?_ ?_) ?_) ?_) ?_) ?_) ?_) hlb
            · exact pb_byt _ _
            · exact pb_byt _ _
            · intro x hx; simp at hx; omega
            · intro x hx; simp at hx; omega
            · exact bytesOf_byt s
            · exact pb_byt _ _
            · intro x hx; simp at hx; omega
          have LF : (A ++ [(l.length : Int) % 256] ++ l).length = 12 + s.size + l.length := by simp; omega
          have ci := iCrc_f _ k (by omega) (by omega) hbA
          have cs := sCrc_f _ k (by omega) (by omega) hbA
          have i7 := iP_f (A ++ [(l.length : Int) % 256] ++ l) (crcM (A ++ [(l.length : Int) % 256] ++ l)) 4 k (by omega) (by omega) (by omega) (by omega)
          have s7 := sP_f (A ++ [(l.length : Int) % 256] ++ l) (crcM (A ++ [(l.length : Int) % 256] ++ l)) 4 k (by omega) (by omega) (by omega) (by omega)
          refine ⟨strOfNums (A ++ [(l.length : Int) % 256] ++ l ++ pb (mx (crcM (A ++ [(l.length : Int) % 256] ++ l)) 0) 4), ?_, ?_⟩
          · simp only [show ((3 : Nat) : Int) = 3 from rfl, show ((2 : Nat) : Int) = 2 from rfl, show ((4 : Nat) : Int) = 4 from rfl] at i1 i2 i5 i7
            rw [i1]; simp only [Option.bind_some]
            rw [i2]; simp only [Option.bind_some]
            rw [if_pos (by simp; omega), if_pos (by simp; omega)]
            rw [show pb (mx a 0) 3 ++ pb (mx b 0) 2 ++ [c % 256, (s.size : Int) % 256] ++ bytesOf s = pb (mx a 0) 3 ++ pb (mx b 0) 2 ++ [c % 256] ++ [(s.size : Int) % 256] ++ bytesOf s by simp, i5]
            simp only [Option.bind_some]
            rw [if_pos (by omega), if_pos (by simp; omega), ci]
            simp only [Option.bind_some]
            rw [i7]; rfl
          · unfold spec_l13Put.f
            simp only [show ((3 : Nat) : Int) = 3 from rfl, show ((2 : Nat) : Int) = 2 from rfl, show ((1 : Nat) : Int) = 1 from rfl, show ((4 : Nat) : Int) = 4 from rfl] at s1 s2 s3 s4 s5 s6 s7
            rw [s1]; simp only [Option.bind_some]
            rw [s2]; simp only [Option.bind_some]
            rw [s3]; simp only [Option.bind_some]
            rw [s4]; simp only [Option.bind_some]
            rw [if_pos (by simp; omega), s5]; simp only [Option.bind_some]
            rw [s6]; simp only [Option.bind_some]
            rw [if_pos (by simp; omega), cs]; simp only [Option.bind_some]
            rw [s7]; rfl
      obtain ⟨z, z1, z2⟩ := hP
      simp [hT, z1, z2, hE]
end Go.Proofs.Ytadjcmipkbjkiaa.Pure
