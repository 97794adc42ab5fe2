/- The law FnGathered answers true at every code: what Feed gives back is a gatherer that is in order, a block that is whole, or the gatherer as it was; and the reference's code. For every input; no condition. -/
import Derived.Test.YtjbecmaibifmlaaSFnGathered
namespace Go.Proofs.Ytjbecmaibifmlaa.Pure
open Go.RowKit Go.Proofs.Ytjbecmaibifmlaa.QFnGathered Go.Proofs.YtjbecmaibifmlaaW.PrintWords Go.Proofs.YtjbecmaibifmlaaW.PrintLast Go.Proofs.YtjbecmaibifmlaaW.PrintOpen
set_option linter.unusedVariables false
set_option linter.unusedSimpArgs false
theorem w64 {x : Int} (h0 : -9223372036854775808 ≤ x) (h1 : x ≤ 9223372036854775807) : wrap64 x = x := by unfold wrap64; omega
theorem wi {n m : Nat} (h : n < m) (hm : m ≤ 9223372036854775807) : wrap64 ((n : Int) + 1) = ((n + 1 : Nat) : Int) := by unfold wrap64; omega
theorem rdOf_mid {α : Type} (d : α) (p : List α) (s : α) (q : List α) : rdOf d (p ++ s :: q) (p.length : Int) = s := by simp [rdOf]
theorem set_mid {α : Type} (p : List α) (s v : α) (q : List α) : (p ++ s :: q).set ((p.length : Int)).toNat v = p ++ v :: q := by simp
theorem len_mid {α : Type} (p : List α) (s : α) (q : List α) : (p.length : Int) < ((p ++ s :: q).length : Int) := by simp; omega
theorem len_end {α : Type} (p : List α) : ¬ (p.length : Int) < ((p ++ []).length : Int) := by simp
theorem nn (n : Nat) : 0 ≤ (n : Int) := by omega
theorem rdOf_at {α : Type} (d : α) {p : List α} {s : α} {q : List α} {n : Nat} (h : p.length = n) : rdOf d (p ++ s :: q) (n : Int) = s := by subst h; exact rdOf_mid d p s q
theorem set_at {α : Type} {p : List α} {s v : α} {q : List α} {n : Nat} (h : p.length = n) : (p ++ s :: q).set ((n : Int)).toNat v = p ++ v :: q := by subst h; exact set_mid p s v q
theorem lt_at {α : Type} {p : List α} {s : α} {q : List α} {n : Nat} (h : p.length = n) : (n : Int) < ((p ++ s :: q).length : Int) := by subst h; exact len_mid p s q
theorem end_at {α : Type} {p : List α} {n : Nat} (h : p.length = n) : ¬ (n : Int) < ((p ++ []).length : Int) := by subst h; exact len_end p
theorem len_same {α : Type} {p p' q q' : List α} (h : p.length = p'.length) (h2 : q.length = q'.length) : (p ++ q).length = (p' ++ q').length := by simp [h, h2]
theorem rd_mid (p : List Int) (s : Int) (q : List Int) : rd (p ++ s :: q) (p.length : Int) = s := by simp [rd]
theorem rd_at {p : List Int} {s : Int} {q : List Int} {n : Nat} (h : p.length = n) : rd (p ++ s :: q) (n : Int) = s := by subst h; exact rd_mid p s q
theorem and255 (n : Int) : Go.bits .and .i64 n 255 = n % 256 := by
  have h127 : (BitVec.ofInt 64 255).toNat = 2 ^ 8 - 1 := by decide
  have key : (BitVec.ofInt 64 n &&& BitVec.ofInt 64 255).toNat = (n % ((2 ^ 64 : Nat) : Int)).toNat % 2 ^ 8 := by
    rw [BitVec.toNat_and, BitVec.toNat_ofInt, h127, Nat.and_two_pow_sub_one_eq_mod]
  show IntKind.i64.wrap ((BitVec.ofInt 64 n &&& BitVec.ofInt 64 255).toNat : Nat) = n % 256
  rw [key, IntKind.wrap_i64]
  omega
theorem wi0 {n m : Nat} (h : n < m) (hm : m ≤ 9223372036854775807) : wrap64 ((n : Int) + 1) = ((n + 1 : Nat) : Int) := by unfold wrap64; omega
theorem new_l0 (L : List Int) (hL : L.length ≤ 9223372036854775807) (d : Nat) : ∀ (n k : Nat) (h : Int), n + d = 4000 → d < k → ∃ h', spec_l1New.l0 k L h (n : Int) = some (L, 0, h') := by
  induction d with
  | zero =>
    intro n k h hn hk
    obtain ⟨k, rfl⟩ : ∃ m, k = m + 1 := ⟨k - 1, by omega⟩
    simp only [spec_l1New.l0]
    by_cases c : (n : Int) < (L.length : Int)
    · rw [if_pos c, if_neg (by omega)]; exact ⟨_, rfl⟩
    · rw [if_neg c]; exact ⟨_, rfl⟩
  | succ d ih =>
    intro n k h hn hk
    obtain ⟨k, rfl⟩ : ∃ m, k = m + 1 := ⟨k - 1, by omega⟩
    simp only [spec_l1New.l0]
    by_cases c : (n : Int) < (L.length : Int)
    · rw [if_pos c, if_pos (by omega), if_pos (by omega), wi0 (m := n + 1) (by omega) (by omega)]
      exact ih (n + 1) k _ (by omega) (by omega)
    · rw [if_neg c]; exact ⟨_, rfl⟩
theorem new_f (L : List Int) (hL : L.length ≤ 9223372036854775807) (k : Nat) (hk : 4001 < k) : ∃ h, spec_l1New.f k L = some (L, 0, h) := by
  unfold spec_l1New.f
  exact new_l0 L hL 4000 0 k _ (by omega) (by omega)
def St (L : List Int) (i : Int) : Prop := 0 ≤ i ∧ i ≤ (L.length : Int) ∧ (L.length : Int) ≤ 9223372036854775807
theorem byte_f {L : List Int} {i : Int} (h : Int) (hs : St L i) : ∃ x i' h', spec_l1Byte.f L i h = some (x, i', h') ∧ 0 ≤ x ∧ x ≤ 255 ∧ St L i' := by
  obtain ⟨h0, h1, h2⟩ := hs
  unfold spec_l1Byte.f
  by_cases c : i < (L.length : Int)
  · rw [if_pos c, if_pos h0]
    refine ⟨_, _, _, rfl, ?_, ?_, ?_, ?_, h2⟩
    · rw [and255]; omega
    · rw [and255]; omega
    · unfold wrap64; omega
    · unfold wrap64; omega
  · rw [if_neg c]
    refine ⟨_, _, _, rfl, ?_, ?_, h0, h1, h2⟩
    · rw [and255]; omega
    · rw [and255]; omega
theorem below_f {L : List Int} {i : Int} (h n : Int) (hs : St L i) : ∃ x i' h', spec_l1Below.f L i h n = some (x, i', h') ∧ 0 ≤ x ∧ (0 < n → x < n) ∧ (n ≤ 0 → x = 0) ∧ St L i' := by
  unfold spec_l1Below.f
  by_cases c : n ≤ 0
  · rw [if_pos c]
    exact ⟨0, i, h, rfl, by omega, fun q => by omega, fun _ => rfl, hs⟩
  · rw [if_neg c]
    by_cases c2 : n ≤ 256
    · rw [if_pos c2]
      obtain ⟨x, i', h', e, a, b, s⟩ := byte_f h hs
      rw [e]
      simp only [Option.bind_some]
      rw [if_neg (by omega)]
      refine ⟨_, _, _, rfl, Int.tmod_nonneg _ a, fun _ => Int.tmod_lt_of_pos _ (by omega), fun q => by omega, s⟩
    · rw [if_neg c2]
      obtain ⟨x, i1, h1, e1, a1, b1, s1⟩ := byte_f h hs
      rw [e1]
      simp only [Option.bind_some]
      obtain ⟨y, i2, h2, e2, a2, b2, s2⟩ := byte_f h1 s1
      rw [e2]
      simp only [Option.bind_some]
      obtain ⟨z, i3, h3, e3, a3, b3, s3⟩ := byte_f h2 s2
      rw [e3]
      simp only [Option.bind_some]
      rw [if_neg (by omega)]
      refine ⟨_, _, _, rfl, Int.tmod_nonneg _ ?_, fun _ => Int.tmod_lt_of_pos _ (by omega), fun q => by omega, s3⟩
      unfold wrap64
      omega
theorem once_f {L : List Int} {i : Int} (h n : Int) (hs : St L i) : ∃ x i' h', spec_l1Once.f L i h n = some (x, i', h') ∧ St L i' := by
  unfold spec_l1Once.f
  obtain ⟨x, i', h', e, _, _, _, s⟩ := below_f h n hs
  rw [e]
  exact ⟨_, _, _, rfl, s⟩
theorem int_f {L : List Int} {i : Int} (h : Int) (l : List Int) (hs : St L i) (hl : 0 < l.length) : ∃ x i' h', spec_l1Int.f L i h l = some (x, i', h') ∧ x ∈ l ∧ St L i' := by
  unfold spec_l1Int.f
  obtain ⟨x, i', h', e, a, b, _, s⟩ := below_f h (l.length : Int) hs
  have := b (by omega)
  rw [e]
  simp only [Option.bind_some]
  rw [if_pos a, if_pos this]
  refine ⟨_, _, _, rfl, ?_, s⟩
  unfold rd
  rw [List.getD_eq_getElem?_getD, List.getElem?_eq_getElem (show x.toNat < l.length by omega)]
  exact List.getElem_mem _
theorem inR_f (a b c : Int) : impl_inRange.f a b c = some (decide (b ≤ a ∧ a ≤ c)) := by
  unfold impl_inRange.f
  by_cases h : a ≥ b
  · rw [if_pos h]; simp [show b ≤ a from h]
  · rw [if_neg h]; simp [show ¬ b ≤ a from h]
theorem l1In_f (a b c : Int) : spec_l1In.f a b c = some (decide (b ≤ a ∧ a ≤ c)) := by
  unfold spec_l1In.f
  by_cases h : a ≥ b
  · rw [if_pos h]; simp [show b ≤ a from h]
  · rw [if_neg h]; simp [show ¬ b ≤ a from h]
def stIdle (e : Int) : Int × Int := if e = 1 ∨ e = 6 then (1, 0) else if e = 2 then (2, 0) else if e = 7 then (3, 0) else (0, 1)
def stOpen (e : Int) : Int × Int := if e = 2 ∨ e = 4 then (2, 0) else if e = 7 ∨ e = 9 then (3, 0) else if e = 5 ∨ e = 10 then (4, 0) else if e = 1 then (1, 1) else (1, 0)
def stThere (e : Int) : Int × Int := if e = 7 ∨ e = 9 ∨ e = 5 ∨ e = 10 then (4, 0) else if e = 6 ∨ e = 8 then (2, 0) else (2, 2)
def stHere (e : Int) : Int × Int := if e = 2 ∨ e = 4 ∨ e = 5 ∨ e = 10 then (4, 0) else if e = 3 then (3, 0) else if e = 1 then (3, 1) else (3, 2)
def step (s e : Int) : Int × Int :=
  if 1 ≤ e ∧ e ≤ 10 then (if s = 0 then stIdle e else if s = 1 then stOpen e else if s = 2 then stThere e else if s = 3 then stHere e else if s = 4 then (if e = 5 then (4, 0) else (4, 2)) else (s, 1)) else (s, 1)
def run (s : Int) : List Int → Int × Nat
  | [] => (s, 0)
  | e :: l => if (step s e).2 = 0 then ((run (step s e).1 l).1, (run (step s e).1 l).2 + 1) else (s, 0)
theorem run_le : ∀ (l : List Int) (s : Int), (run s l).2 ≤ l.length
  | [], _ => by simp [run]
  | e :: l, s => by
    have := run_le l (step s e).1
    simp only [run]
    split <;> simp
    omega
theorem gok_same (n : Int) (h : Bool) (b : List Int) : ∃ r, impl_GatherOk.f n h b = some r ∧ spec_GatherOk.f n h b = some r ∧ (r = true → (n = 0 ∧ h = false ∧ b.length = 0) ∨ (1 ≤ n ∧ n ≤ 2147483647 ∧ (b.length : Int) ≤ 3000)) ∧ (1 ≤ n → n ≤ 2147483647 → (b.length : Int) ≤ 3000 → r = true) ∧ (n = 0 → h = false → b = [] → r = true) := by
  unfold impl_GatherOk.f spec_GatherOk.f
  rw [inR_f, l1In_f]
  simp only [Option.bind_some, decide_eq_true_eq]
  by_cases c : n = 0
  · rw [if_pos c]
    cases h
    · refine ⟨_, rfl, rfl, ?_, ?_, ?_⟩
      · intro q; left; refine ⟨c, rfl, ?_⟩; have := beq_iff_eq.mp q; omega
      · intro q; omega
      · intro _ _ q; subst q; rfl
    · exact ⟨false, rfl, rfl, by simp, by omega, by simp⟩
  · rw [if_neg c]
    by_cases c2 : 1 ≤ n ∧ n ≤ 2147483647
    · rw [if_pos c2]
      refine ⟨_, rfl, rfl, ?_, ?_, ?_⟩
      · intro q; right; exact ⟨c2.1, c2.2, of_decide_eq_true q⟩
      · intro _ _ q; exact decide_eq_true q
      · intro q; exact absurd q c
    · rw [if_neg c2]
      exact ⟨false, rfl, rfl, by simp, by intro a b; exact absurd ⟨a, b⟩ c2, by intro q; exact absurd q c⟩
theorem fok_same (a b c : Int) (l : List Int) : ∃ r, impl_FrameOk.f a b c l = some r ∧ spec_FrameOk.f a b c l = some r ∧ (r = true → 0 ≤ c ∧ c ≤ 2147483647) := by
  unfold impl_FrameOk.f spec_FrameOk.f
  simp only [inR_f, l1In_f, Option.bind_some, decide_eq_true_eq]
  by_cases c1 : 0 ≤ a ∧ a ≤ 255
  · by_cases c2 : 0 ≤ b ∧ b ≤ 255
    · by_cases c3 : 0 ≤ c ∧ c ≤ 2147483647
      · simp only [c1, c2, c3, and_self, if_true]; exact ⟨_, rfl, rfl, fun _ => trivial⟩
      · simp only [c1, c2, c3, and_self, if_true, if_false]; exact ⟨_, rfl, rfl, by simp⟩
    · simp only [c1, c2, and_self, if_true, if_false]; exact ⟨_, rfl, rfl, by simp⟩
  · simp only [c1, if_false]; exact ⟨_, rfl, rfl, by simp⟩
theorem body_same (k : Nat) (a b c : Int) (l : List Int) (hk : 0 < k) : ∃ r, impl_bodyOk.f k a b c l = some r ∧ spec_l6Size.f k a b c l = some r := by
  obtain ⟨k, rfl⟩ : ∃ m, k = m + 1 := ⟨k - 1, by omega⟩
  unfold impl_bodyOk.f spec_l6Size.f
  simp only [impl_bodyOk.j0, spec_l6Size.j0, impl_Frame_has.f, Option.bind_some]
  by_cases c2 : a = 2
  · rw [if_pos c2, if_pos c2]; exact ⟨_, rfl, rfl⟩
  · rw [if_neg c2, if_neg c2]
    by_cases c3 : a = 3
    · subst c3; simp
    · by_cases c8 : a = 8
      · subst c8; simp
      · by_cases c6 : a = 6
        · subst c6; simp
        · by_cases c7 : a = 7
          · subst c7; simp
          · by_cases c4 : a = 4
            · subst c4
              by_cases m : Int.tmod (l.length : Int) 6 = 0
              · by_cases z : (l.length : Int) = 0
                · by_cases y : Go.bits .and .i64 b 1 = 0 <;> simp_all
                · have hz : ((l.length : Int) == 0) = false := beq_eq_false_iff_ne.mpr z
                  by_cases y : Go.bits .and .i64 b 1 = 0
                  · have hy : (Go.bits .and .i64 b 1 != 0) = false := bne_eq_false_iff_eq.mpr y
                    rw [hy, if_pos y, if_neg z]; simp [m]
                  · have hy : (Go.bits .and .i64 b 1 != 0) = true := bne_iff_ne.mpr y
                    rw [hy, hz, if_neg y, if_neg z]; simp [m]
              · simp [m]
            · simp [c3, c8, c6, c7, c4]
theorem code_j2 (k : Nat) (x : Bool) (a b c : Int) (l : List Int) (hk : 0 < k) : ∃ r, impl_FrameCode.j2 k x a b c l = some r ∧ spec_FrameCode.j2 k x a b c l = some r := by
  obtain ⟨k, rfl⟩ : ∃ m, k = m + 1 := ⟨k - 1, by omega⟩
  simp only [impl_FrameCode.j2, spec_FrameCode.j2]
  cases x
  · simp
  · by_cases h : c = 0 <;> simp [h]
theorem code_j1 (k : Nat) (e : Int) (x : Bool) (a b c : Int) (l : List Int) (hk : 1 < k) : ∃ r, impl_FrameCode.j1 k e x a b c l = some r ∧ spec_FrameCode.j1 k e x a b c l = some r ∧ (r = 0 → x = true → c ≠ 0) := by
  obtain ⟨k, rfl⟩ : ∃ m, k = m + 1 := ⟨k - 1, by omega⟩
  simp only [impl_FrameCode.j1, spec_FrameCode.j1]
  cases x
  · simp only [Bool.false_eq_true, if_false]
    by_cases c4 : e = 4
    · obtain ⟨r, h1, h2⟩ := code_j2 k (e == 4) a b c l (by omega)
      rw [if_pos c4, if_pos c4]; exact ⟨r, h1, h2, by simp⟩
    · rw [if_neg c4, if_neg c4]
      by_cases c6 : e = 6
      · obtain ⟨r, h1, h2⟩ := code_j2 k (e == 6) a b c l (by omega)
        rw [if_pos c6, if_pos c6]; exact ⟨r, h1, h2, by simp⟩
      · obtain ⟨r, h1, h2⟩ := code_j2 k (e == 7) a b c l (by omega)
        rw [if_neg c6, if_neg c6]; exact ⟨r, h1, h2, by simp⟩
  · by_cases h : c = 0 <;> simp [h]
theorem code_j0 (k : Nat) (x : Bool) (a b c : Int) (l : List Int) (hk : 2 < k) : ∃ r, impl_FrameCode.j0 k x a b c l = some r ∧ spec_FrameCode.j0 k x a b c l = some r ∧ (r = 0 → a = 1 → c ≠ 0) ∧ (r = 0 → x = false) := by
  obtain ⟨k, rfl⟩ : ∃ m, k = m + 1 := ⟨k - 1, by omega⟩
  simp only [impl_FrameCode.j0, spec_FrameCode.j0]
  cases x
  · simp only [Bool.false_eq_true, if_false]
    have J := fun (x : Bool) => code_j1 k a x a b c l (by omega)
    by_cases c0 : a = 0
    · rw [if_pos c0, if_pos c0]; obtain ⟨r, h1, h2, h3⟩ := J (a == 0); exact ⟨r, h1, h2, by omega, fun _ => trivial⟩
    · rw [if_neg c0, if_neg c0]
      by_cases c1 : a = 1
      · rw [if_pos c1, if_pos c1]; obtain ⟨r, h1, h2, h3⟩ := J (a == 1); exact ⟨r, h1, h2, fun q _ => h3 q (by simp [c1]), fun _ => trivial⟩
      · rw [if_neg c1, if_neg c1]
        by_cases c2 : a = 2
        · rw [if_pos c2, if_pos c2]; obtain ⟨r, h1, h2, h3⟩ := J (a == 2); exact ⟨r, h1, h2, by omega, fun _ => trivial⟩
        · rw [if_neg c2, if_neg c2]
          by_cases c3 : a = 3
          · rw [if_pos c3, if_pos c3]; obtain ⟨r, h1, h2, h3⟩ := J (a == 3); exact ⟨r, h1, h2, by omega, fun _ => trivial⟩
          · rw [if_neg c3, if_neg c3]
            by_cases c5 : a = 5
            · rw [if_pos c5, if_pos c5]; obtain ⟨r, h1, h2, h3⟩ := J (a == 5); exact ⟨r, h1, h2, by omega, fun _ => trivial⟩
            · rw [if_neg c5, if_neg c5]; obtain ⟨r, h1, h2, h3⟩ := J (a == 9); exact ⟨r, h1, h2, by omega, fun _ => trivial⟩
  · exact ⟨2, by simp, by simp, by omega, by omega⟩
theorem code_same (k : Nat) (a b c : Int) (l : List Int) (hk : 3 < k) : ∃ r, impl_FrameCode.f k a b c l = some r ∧ spec_FrameCode.f k a b c l = some r ∧ (r = 0 → 0 ≤ c ∧ c ≤ 2147483647 ∧ (a = 1 → c ≠ 0)) := by
  unfold impl_FrameCode.f spec_FrameCode.f
  obtain ⟨r, h1, h2, h3⟩ := fok_same a b c l
  rw [h1, h2]
  simp only [Option.bind_some]
  cases r
  · simp only [Bool.false_eq_true, if_false]
    obtain ⟨r, g1, g2, g3, g4⟩ := code_j0 k true a b c l (by omega)
    exact ⟨r, g1, g2, fun q => absurd (g4 q) (by simp)⟩
  · simp only [if_true]
    obtain ⟨y, y1, y2⟩ := body_same k a b c l (by omega)
    rw [y1, y2]
    obtain ⟨r, g1, g2, g3, g4⟩ := code_j0 k (!y) a b c l (by omega)
    exact ⟨r, g1, g2, fun q => ⟨(h3 rfl).1, (h3 rfl).2, g3 q⟩⟩
def unpadM (pad prio : Bool) (l : List Int) : Option (List Int) :=
  if pad = true ∧ l.length = 0 then none else
  let b := if pad then l.drop 1 else l
  let p := if pad then rd l 0 else 0
  let a := if prio then 5 else 0
  if (a : Nat) + p > (b.length : Int) then none else some ((b.take (b.length - p.toNat)).drop a)
def hasB (fl b : Int) : Bool := Go.bits .and .i64 fl b != 0
theorem iHas_f (a b c : Int) (l : List Int) (m : Int) : impl_Frame_has.f a b c l m = some (hasB b m) := rfl
theorem clone_f (l : List Int) (h : l.length < 140737488355328) : slices_Clone_byte_byte.f l = some l := by
  unfold slices_Clone_byte_byte.f
  simp [h]
theorem iUn_j1 (k : Nat) (b : List Int) (p : Int) (x : Bool) (hk : 0 < k) (hb : b.length < 100000) (h0 : 0 ≤ p) (h1 : p ≤ 255) : impl_Unpad.j1 k b p 0 x = some (if ((if x then 5 else 0 : Nat) : Int) + p > (b.length : Int) then ([], false) else ((b.take (b.length - p.toNat)).drop (if x then 5 else 0), true)) := by
  obtain ⟨k, rfl⟩ : ∃ m, k = m + 1 := ⟨k - 1, by omega⟩
  simp only [impl_Unpad.j1]
  cases x
  · simp only [Bool.false_eq_true, if_false]
    rw [w64 (by omega) (by omega), w64 (by omega) (by omega)]
    by_cases c : (0 : Int) + p > (b.length : Int)
    · rw [if_pos c, if_pos (show ((0 : Nat) : Int) + p > (b.length : Int) from c)]
    · have e : ((b.length : Int) - p).toNat = b.length - p.toNat := by omega
      have hl : ((b.take (b.length - p.toNat)).drop 0).length < 140737488355328 := by simp; omega
      rw [if_neg c, if_pos (show (0 : Int) ≤ 0 by omega), if_pos (show (0 : Int) ≤ (b.length : Int) - p by omega), if_pos (show (b.length : Int) - p ≤ (b.length : Int) by omega), e, if_neg (show ¬ ((0 : Nat) : Int) + p > (b.length : Int) from c)]
      simp only [Int.toNat_zero]
      rw [clone_f _ hl]; rfl
  · simp only [if_true]
    rw [w64 (by omega) (by omega), w64 (by omega) (by omega)]
    by_cases c : (5 : Int) + p > (b.length : Int)
    · rw [if_pos c, if_pos (show ((5 : Nat) : Int) + p > (b.length : Int) from c)]
    · have e : ((b.length : Int) - p).toNat = b.length - p.toNat := by omega
      have hl : ((b.take (b.length - p.toNat)).drop 5).length < 140737488355328 := by simp; omega
      rw [if_neg c, if_pos (show (5 : Int) ≤ (b.length : Int) - p by omega), if_pos (show (b.length : Int) - p ≤ (b.length : Int) by omega), e, clone_f _ hl, if_neg (show ¬ ((5 : Nat) : Int) + p > (b.length : Int) from c)]; rfl
theorem iUn_j0 (k : Nat) (b : List Int) (p a f s : Int) (l : List Int) (hk : 1 < k) (hb : b.length < 100000) (h0 : 0 ≤ p) (h1 : p ≤ 255) : impl_Unpad.j0 k b p a f s l = some (if ((if (a == 1 && hasB f 32) then 5 else 0 : Nat) : Int) + p > (b.length : Int) then ([], false) else ((b.take (b.length - p.toNat)).drop (if (a == 1 && hasB f 32) then 5 else 0), true)) := by
  obtain ⟨k, rfl⟩ : ∃ m, k = m + 1 := ⟨k - 1, by omega⟩
  simp only [impl_Unpad.j0, iHas_f, Option.bind_some]
  by_cases c : a = 1
  · rw [if_pos c, iUn_j1 k b p _ (by omega) hb h0 h1]; simp [c]
  · rw [if_neg c, iUn_j1 k b p _ (by omega) hb h0 h1]; simp [c]
theorem rd_bd (l : List Int) (i : Int) (h : ∀ x ∈ l, 0 ≤ x ∧ x ≤ 255) : 0 ≤ rd l i ∧ rd l i ≤ 255 := by
  unfold rd
  rw [List.getD_eq_getElem?_getD]
  rcases hq : l[i.toNat]? with _ | x
  · simp
  · exact h x (List.mem_of_getElem? hq)
def unRes (o : Option (List Int)) : List Int × Bool := match o with | none => ([], false) | some b => (b, true)
theorem unRes_ite (c : Prop) [Decidable c] (x : List Int) : unRes (if c then none else some x) = if c then ([], false) else (x, true) := by split <;> rfl
theorem iUn_f (k : Nat) (a f s : Int) (l : List Int) (hk : 1 < k) (hl : l.length < 100000) (hb : ∀ x ∈ l, 0 ≤ x ∧ x ≤ 255) : impl_Unpad.f k a f s l = some (unRes (unpadM (hasB f 8) (a == 1 && hasB f 32) l)) := by
  obtain ⟨r0, r1⟩ := rd_bd l 0 hb
  unfold impl_Unpad.f unpadM
  rw [iHas_f]
  simp only [Option.bind_some]
  cases hp : hasB f 8
  · simp only [Bool.false_eq_true, if_false, false_and]
    rw [iUn_j0 k l 0 a f s l hk hl (by omega) (by omega), unRes_ite]
  · simp only [if_true, true_and]
    by_cases c : (l.length : Int) = 0
    · rw [if_pos c, if_pos (by omega)]; rfl
    · rw [if_neg c, if_pos (show (0 : Int) < (l.length : Int) by omega), if_pos (show (1 : Int) ≤ (l.length : Int) by omega), w64 (by omega) (by omega), iUn_j0 k (l.drop 1) (rd l 0) a f s l hk (by simp; omega) r0 r1, if_neg (show ¬ l.length = 0 by omega), unRes_ite]
def prioM (prio : Bool) (b : List Int) : List Int × Bool := if prio then (if (b.length : Int) < 5 then ([], false) else (b.drop 5, true)) else (b, true)
theorem sUn_j1 (k : Nat) (b : List Int) (x : Bool) (hk : 0 < k) (hb : b.length < 100000) : spec_Unpad.j1 k b x = some (prioM x b) := by
  obtain ⟨k, rfl⟩ : ∃ m, k = m + 1 := ⟨k - 1, by omega⟩
  simp only [spec_Unpad.j1, prioM]
  cases x
  · simp only [Bool.false_eq_true, if_false, Option.bind_some, List.nil_append]
    rw [if_pos (by simp; omega)]
  · simp only [if_true, Option.bind_some, List.nil_append]
    by_cases c : (b.length : Int) < 5
    · rw [if_pos c, if_pos c]
    · rw [if_neg c, if_neg c, if_pos (by omega), if_pos (by simp; omega)]
theorem sUn_j0 (k : Nat) (b : List Int) (a f s : Int) (l : List Int) (hk : 1 < k) (hb : b.length < 100000) : spec_Unpad.j0 k b a f s l = some (prioM (a == 1 && hasB f 32) b) := by
  obtain ⟨k, rfl⟩ : ∃ m, k = m + 1 := ⟨k - 1, by omega⟩
  simp only [spec_Unpad.j0]
  by_cases c : a = 1
  · rw [if_pos c, sUn_j1 k b _ (by omega) hb]; simp [c, hasB]
  · have ha : (a == 1) = false := beq_eq_false_iff_ne.mpr c
    rw [if_neg c, sUn_j1 k b _ (by omega) hb]; simp [ha]
theorem sUn_f (k : Nat) (a f s : Int) (l : List Int) (hk : 1 < k) (hl : l.length < 100000) (hb : ∀ x ∈ l, 0 ≤ x ∧ x ≤ 255) : spec_Unpad.f k a f s l = some (unRes (unpadM (hasB f 8) (a == 1 && hasB f 32) l)) := by
  obtain ⟨r0, r1⟩ := rd_bd l 0 hb
  unfold spec_Unpad.f unpadM
  by_cases hp : Go.bits .and .i64 f 8 = 0
  · have hp2 : hasB f 8 = false := by simp [hasB, hp]
    rw [if_pos hp, hp2, sUn_j0 k l a f s l hk hl]
    simp only [Bool.false_eq_true, if_false, false_and, prioM]
    rw [unRes_ite]
    cases hq : (a == 1 && hasB f 32)
    · simp
    · simp
  · have hp2 : hasB f 8 = true := by simp [hasB, hp]
    rw [if_neg hp, hp2]
    simp only [if_true, true_and]
    by_cases c : (l.length : Int) = 0
    · rw [if_pos c, if_pos (show l.length = 0 by omega)]; rfl
    · rw [if_neg c, if_pos (show (0 : Int) < (l.length : Int) by omega), w64 (by omega) (by omega), w64 (by omega) (by omega), if_neg (show ¬ l.length = 0 by omega), unRes_ite]
      by_cases c2 : rd l 0 > (l.length : Int) - 1
      · rw [if_pos c2, if_pos]
        simp only [List.length_drop]
        split <;> omega
      · have e : ((l.length : Int) - rd l 0).toNat = l.length - (rd l 0).toNat := by omega
        have e2 : (l.take (l.length - (rd l 0).toNat)).drop 1 = (l.drop 1).take ((l.drop 1).length - (rd l 0).toNat) := by
          rw [List.drop_take, List.length_drop]
          congr 1; omega
        rw [if_neg c2, w64 (by omega) (by omega), if_pos (show (1 : Int) ≤ (l.length : Int) - rd l 0 by omega), if_pos (show (l.length : Int) - rd l 0 ≤ (l.length : Int) by omega), e, e2, sUn_j0 k _ a f s l hk (by simp; omega)]
        simp only [prioM]
        cases hq : (a == 1 && hasB f 32)
        · simp only [Bool.false_eq_true, if_false, List.drop_zero]
          rw [if_neg (by simp only [List.length_drop]; omega)]
        · simp only [if_true, List.length_take, List.length_drop]
          by_cases c5 : (5 : Int) + rd l 0 > ((l.length - 1 : Nat) : Int)
          · rw [if_pos (by omega), if_pos (show ((5 : Nat) : Int) + rd l 0 > ((l.length - 1 : Nat) : Int) from c5)]
          · rw [if_neg (by omega), if_neg (show ¬ ((5 : Nat) : Int) + rd l 0 > ((l.length - 1 : Nat) : Int) from c5)]
def joinM (n : Int) (h : Bool) (b : List Int) (fl n' : Int) (h' : Bool) (u : List Int) : Int × Bool × List Int × List Int × Int :=
  if (u.length : Int) > 3000 then (n, h, b, [], 4) else if hasB fl 4 = true then (0, false, [], u, 1) else (n', h', u, [], 0)
def feedM (n : Int) (h : Bool) (b : List Int) (kd fl st : Int) (l : List Int) (ok : Bool) : Int × Bool × List Int × List Int × Int :=
  if ok = true then (if kd = 1 then (match unpadM (hasB fl 8) (kd == 1 && hasB fl 32) l with | none => (n, h, b, [], 3) | some u => joinM n h b fl st (hasB fl 1) u) else if kd = 9 then joinM n h b fl n h (b ++ l) else (n, h, b, [], 0)) else (n, h, b, [], 2)
def inOrd (n kd st : Int) : Bool := if n = 0 then kd != 9 else kd == 9 && st == n
theorem iCopy_f (n : Int) (h : Bool) (b : List Int) (hb : b.length < 100000) : impl_copyGather.f n h b = some (n, h, b) := by
  unfold impl_copyGather.f; rw [clone_f b (by omega)]; rfl
theorem sCopy_f (n : Int) (h : Bool) (b : List Int) (hb : b.length < 100000) : spec_l8Copy.f n h b = some (n, h, b) := by
  unfold spec_l8Copy.f; simp; omega
theorem iF_j1 (k : Nat) (n : Int) (h : Bool) (b : List Int) (kd fl st : Int) (l : List Int) (n' : Int) (h' : Bool) (u : List Int) (hk : 0 < k) (hb : b.length < 100000) : impl_Feed.j1 k n h b kd fl st l n' h' u = some (joinM n h b fl n' h' u) := by
  obtain ⟨k, rfl⟩ : ∃ m, k = m + 1 := ⟨k - 1, by omega⟩
  simp only [impl_Feed.j1, iCopy_f n h b hb, iHas_f, Option.bind_some, joinM]
  split
  · rfl
  · split <;> rfl
theorem sF_j1 (k : Nat) (n : Int) (h : Bool) (b : List Int) (kd fl st : Int) (l : List Int) (n' : Int) (h' : Bool) (u : List Int) (hk : 0 < k) (hb : b.length < 100000) : spec_Feed.j1 k [] n h b kd fl st l n' h' u = some (joinM n h b fl n' h' u) := by
  obtain ⟨k, rfl⟩ : ∃ m, k = m + 1 := ⟨k - 1, by omega⟩
  simp only [spec_Feed.j1, sCopy_f n h b hb, Option.bind_some, joinM, hasB]
  split
  · rfl
  · by_cases q : Go.bits .and .i64 fl 4 = 0
    · simp [q]
    · simp [q]
theorem iF_j0 (k : Nat) (x : Bool) (n : Int) (h : Bool) (b : List Int) (kd fl st : Int) (l : List Int) (hk : 2 < k) (hb : b.length < 100000) (hl : l.length < 100000) (hbt : ∀ x ∈ l, 0 ≤ x ∧ x ≤ 255) : impl_Feed.j0 k x n h b kd fl st l = some (feedM n h b kd fl st l (!x)) := by
  obtain ⟨k, rfl⟩ : ∃ m, k = m + 1 := ⟨k - 1, by omega⟩
  simp only [impl_Feed.j0, iCopy_f n h b hb, iHas_f, Option.bind_some, feedM, iUn_f k kd fl st l (by omega) hl hbt]
  cases x
  · simp only [Bool.false_eq_true, if_false, Bool.not_false, if_true]
    by_cases c1 : kd = 1
    · rw [if_pos c1, if_pos c1]
      cases hu : unpadM (hasB fl 8) (kd == 1 && hasB fl 32) l with
      | none => simp [unRes]
      | some u => simp [unRes, iF_j1 k n h b kd fl st l st (hasB fl 1) u (by omega) hb]
    · rw [if_neg c1, if_neg c1]
      by_cases c9 : kd = 9
      · rw [if_pos c9, if_pos c9, if_pos (by omega), iF_j1 k n h b kd fl st l n h (b ++ l) (by omega) hb]
      · rw [if_neg c9, if_neg c9]
  · simp
theorem sF_j0 (k : Nat) (x : Bool) (n : Int) (h : Bool) (b : List Int) (kd fl st : Int) (l : List Int) (hk : 2 < k) (hb : b.length < 100000) (hl : l.length < 100000) (hbt : ∀ x ∈ l, 0 ≤ x ∧ x ≤ 255) : spec_Feed.j0 k [] x n h b kd fl st l = some (feedM n h b kd fl st l (!x)) := by
  obtain ⟨k, rfl⟩ : ∃ m, k = m + 1 := ⟨k - 1, by omega⟩
  simp only [spec_Feed.j0, sCopy_f n h b hb, Option.bind_some, feedM, sUn_f k kd fl st l (by omega) hl hbt]
  cases x
  · simp only [Bool.false_eq_true, if_false, Bool.not_false, if_true]
    by_cases c1 : kd = 1
    · rw [if_pos c1, if_pos c1]
      cases hu : unpadM (hasB fl 8) (kd == 1 && hasB fl 32) l with
      | none => simp [unRes]
      | some u =>
        have e := sF_j1 k n h b kd fl st l st (hasB fl 1) u (by omega) hb
        simp only [hasB] at e ⊢
        simp [unRes, e]
    · rw [if_neg c1, if_neg c1]
      by_cases c9 : kd = 9
      · rw [if_pos c9, if_pos c9, if_pos (by omega), sF_j1 k n h b kd fl st l n h (b ++ l) (by omega) hb]
      · rw [if_neg c9, if_neg c9]
  · simp
theorem feed_f (k : Nat) (n : Int) (h : Bool) (b : List Int) (kd fl st : Int) (l : List Int) (hk : 5 < k) (hb : b.length < 100000) (hl : l.length < 100000) (hbt : ∀ x ∈ l, 0 ≤ x ∧ x ≤ 255) :
    ∃ ok : Bool, impl_Feed.f k n h b kd fl st l = some (feedM n h b kd fl st l ok) ∧ spec_Feed.f k n h b kd fl st l = some (feedM n h b kd fl st l ok) ∧
      (ok = true → ((n = 0 ∧ h = false ∧ b.length = 0) ∨ (1 ≤ n ∧ n ≤ 2147483647 ∧ (b.length : Int) ≤ 3000)) ∧ 0 ≤ st ∧ st ≤ 2147483647 ∧ (kd = 1 → st ≠ 0) ∧ (kd = 9 → n ≠ 0)) := by
  obtain ⟨g, g1, g2, g3, _, _⟩ := gok_same n h b
  obtain ⟨c, c1, c2, c3⟩ := code_same k kd fl st l (by omega)
  have I := fun x => iF_j0 k x n h b kd fl st l (by omega) hb hl hbt
  have S := fun x => sF_j0 k x n h b kd fl st l (by omega) hb hl hbt
  refine ⟨g && (c == 0) && inOrd n kd st, ?_, ?_, ?_⟩
  · unfold impl_Feed.f impl_isInOrder.f
    simp only [g1, c1, Option.bind_some, I]
    cases g
    · simp
    · by_cases z : c = 0
      · by_cases n0 : n = 0
        · simp [z, n0, inOrd, bne]
        · by_cases k9 : kd = 9
          · simp [z, n0, k9, inOrd]
          · have k9' : (kd == 9) = false := beq_eq_false_iff_ne.mpr k9
            simp [z, n0, k9, k9', inOrd]
      · have z' : (c == 0) = false := beq_eq_false_iff_ne.mpr z
        simp [z, z']
  · unfold spec_Feed.f
    simp only [g2, c2, Option.bind_some, S]
    cases g
    · simp
    · have hn := g3 rfl
      by_cases z : c = 0
      · by_cases n0 : n = 0
        · simp [z, n0, inOrd, bne]
        · have hp : n > 0 := by omega
          by_cases k9 : kd = 9
          · by_cases s : st = n
            · simp [z, n0, k9, s, hp, inOrd]
            · have s' : (st == n) = false := beq_eq_false_iff_ne.mpr s
              simp [z, n0, k9, s, s', hp, inOrd]
          · have k9' : (kd == 9) = false := beq_eq_false_iff_ne.mpr k9
            simp [z, n0, k9, k9', hp, inOrd]
      · have z' : (c == 0) = false := beq_eq_false_iff_ne.mpr z
        simp [z, z']
  · intro q
    simp only [Bool.and_eq_true, beq_iff_eq] at q
    obtain ⟨⟨q1, q2⟩, q3⟩ := q
    obtain ⟨a1, a2, a3⟩ := c3 q2
    refine ⟨g3 q1, a1, a2, a3, ?_⟩
    intro k9 n0
    simp [inOrd, k9, n0] at q3
def Bs (m : Nat) (l : List Int) : Prop := l.length ≤ m ∧ ∀ x ∈ l, 0 ≤ x ∧ x ≤ 255
theorem Bs.le {m n : Nat} {l : List Int} (h : Bs m l) (hm : m ≤ n) : Bs n l := ⟨Nat.le_trans h.1 hm, h.2⟩
theorem bytes_l0 (L : List Int) (n : Int) (d : Nat) : ∀ (p : List Int) (i h : Int) (k : Nat), (p.length : Int) + d = n → Bs p.length p → n ≤ 100000 → d < k → St L i → ∃ bs i' h', spec_l1Bytes.l0 k n p (p.length : Int) L i h = some (bs, i', h') ∧ Bs n.toNat bs ∧ St L i' := by
  induction d with
  | zero =>
    intro p i h k hn hp hm hk hs
    obtain ⟨k, rfl⟩ : ∃ m, k = m + 1 := ⟨k - 1, by omega⟩
    simp only [spec_l1Bytes.l0]
    rw [if_neg (by omega)]
    exact ⟨p, i, h, rfl, hp.le (by omega), hs⟩
  | succ d ih =>
    intro p i h k hn hp hm hk hs
    obtain ⟨k, rfl⟩ : ∃ m, k = m + 1 := ⟨k - 1, by omega⟩
    simp only [spec_l1Bytes.l0]
    obtain ⟨x, i', h', e, x0, x1, s⟩ := byte_f h hs
    rw [if_pos (by omega), e]
    simp only [Option.bind_some]
    rw [if_pos (by omega), show wrap64 ((p.length : Int) + 1) = (((p ++ [x % 256]).length : Nat) : Int) by rw [w64 (by omega) (by omega)]; simp]
    refine ih (p ++ [x % 256]) i' h' k (by simp; omega) ⟨by simp, ?_⟩ hm (by omega) s
    intro y hy
    rcases List.mem_append.1 hy with q | q
    · exact hp.2 y q
    · have : y = x % 256 := by simpa using q
      omega
theorem bytes_f {L : List Int} {i : Int} (h : Int) (n : Int) (k : Nat) (hs : St L i) (h0 : 0 ≤ n) (h1 : n ≤ 100000) (hk : 100000 < k) : ∃ bs i' h', spec_l1Bytes.f k L i h n = some (bs, i', h') ∧ Bs n.toNat bs ∧ St L i' := by
  unfold spec_l1Bytes.f
  exact bytes_l0 L n n.toNat [] i h k (by simp; omega) ⟨by simp, by simp⟩ h1 (by omega) hs
theorem some_f {L : List Int} {i : Int} (h : Int) (k : Nat) (hs : St L i) (hk : 100000 < k) : ∃ bs i' h', spec_l1Some.f k L i h = some (bs, i', h') ∧ Bs 9 bs ∧ St L i' := by
  unfold spec_l1Some.f
  obtain ⟨x, i1, h1, e, hx, s⟩ := int_f h [0, 1, 2, 5, 9] hs (by decide)
  rw [e]
  simp only [Option.bind_some]
  have hx2 : 0 ≤ x ∧ x ≤ 9 := by simp at hx; omega
  obtain ⟨bs, i2, h2, e2, hb, s2⟩ := bytes_f h1 x k s (by omega) (by omega) hk
  rw [e2]
  exact ⟨bs, i2, h2, rfl, hb.le (by omega), s2⟩
theorem draw8_f {L : List Int} {i : Int} (h : Int) (k : Nat) (hs : St L i) (hk : 100000 < k) : ∃ n g bs i' h', spec_l8Draw.f k L i h = some (n, g, bs, i', h') ∧ bs.length ≤ 9 ∧ St L i' := by
  unfold spec_l8Draw.f
  obtain ⟨x, i1, h1, e, s⟩ := once_f h 2 hs
  rw [e]
  simp only [Option.bind_some]
  cases x
  · simp only [Bool.false_eq_true, if_false]
    obtain ⟨y, i2, h2, e2, _, s2⟩ := int_f h1 [1, 3] s (by decide)
    rw [e2]
    simp only [Option.bind_some]
    obtain ⟨z, i3, h3, e3, s3⟩ := once_f h2 2 s2
    rw [e3]
    simp only [Option.bind_some]
    obtain ⟨bs, i4, h4, e4, hb, s4⟩ := some_f h3 k s3 hk
    rw [e4]
    exact ⟨y, z, bs, i4, h4, rfl, hb.1, s4⟩
  · exact ⟨0, false, [], i1, h1, by simp, by simp, s⟩
theorem any8_f {L : List Int} {i : Int} (h : Int) (k : Nat) (hs : St L i) (hk : 100000 < k) : ∃ n g bs i' h', spec_l8Any.f k L i h = some (n, g, bs, i', h') ∧ bs.length ≤ 3001 ∧ St L i' := by
  unfold spec_l8Any.f
  obtain ⟨n, g, bs, i1, h1, e, hb, s⟩ := draw8_f h k hs hk
  rw [e]
  simp only [Option.bind_some]
  obtain ⟨x, i2, h2, e2, x0, x1, _, s2⟩ := below_f h1 14 s
  rw [e2]
  simp only [Option.bind_some]
  by_cases c0 : x = 0
  · rw [if_pos c0]
    obtain ⟨y, i3, h3, e3, _, s3⟩ := int_f h2 [-1, 0, 2147483648] s2 (by decide)
    rw [e3]
    exact ⟨y, g, bs, i3, h3, rfl, by omega, s3⟩
  · rw [if_neg c0]
    by_cases c1 : x = 1
    · rw [if_pos c1]
      obtain ⟨y, i3, h3, e3, y0, y1, _, s3⟩ := below_f h2 2 s2
      have := y1 (by omega)
      rw [e3]
      simp only [Option.bind_some]
      rw [w64 (by omega) (by omega), if_pos (by omega), if_pos (by omega)]
      exact ⟨n, g, _, i3, h3, rfl, by simp; omega, s3⟩
    · rw [if_neg c1]
      exact ⟨n, g, bs, i2, h2, rfl, by omega, s2⟩
theorem fr_j4 {L : List Int} {i : Int} (h : Int) (k : Nat) (x4 : Int) (x : Bool) (a b c : Int) (hs : St L i) (hk : 100001 < k) (h0 : 0 ≤ x4) (h1 : x4 ≤ 20) : ∃ kd fl st bs i' h', spec_l6Frame.j4 k x4 x L i h a b c = some (kd, fl, st, bs, i', h') ∧ Bs 20 bs ∧ St L i' := by
  obtain ⟨k, rfl⟩ : ∃ m, k = m + 1 := ⟨k - 1, by omega⟩
  simp only [spec_l6Frame.j4]
  cases x
  · simp only [Bool.false_eq_true, if_false]
    obtain ⟨bs, i2, h2, e2, hb, s2⟩ := bytes_f h x4 k hs (by omega) (by omega) (by omega)
    rw [e2]
    exact ⟨a, b, c, bs, i2, h2, rfl, hb.le (by omega), s2⟩
  · simp only [if_true]
    obtain ⟨y, i1, h1, e, _, s⟩ := int_f h [0, 0, 0, 0, 1] hs (by decide)
    rw [e]
    simp only [Option.bind_some]
    obtain ⟨bs, i2, h2, e2, hb, s2⟩ := bytes_f h1 x4 k s (by omega) (by omega) (by omega)
    rw [e2]
    exact ⟨a, b, y, bs, i2, h2, rfl, hb.le (by omega), s2⟩
theorem fr_j3 {L : List Int} {i : Int} (h : Int) (k : Nat) (x4 : Int) (a b c : Int) (hs : St L i) (hk : 100002 < k) (h0 : 0 ≤ x4) (h1 : x4 ≤ 20) : ∃ kd fl st bs i' h', spec_l6Frame.j3 k x4 L i h a b c = some (kd, fl, st, bs, i', h') ∧ Bs 20 bs ∧ St L i' := by
  obtain ⟨k, rfl⟩ : ∃ m, k = m + 1 := ⟨k - 1, by omega⟩
  simp only [spec_l6Frame.j3, l1In_f, Option.bind_some]
  split
  · exact fr_j4 h k x4 _ a b c hs (by omega) h0 h1
  · exact fr_j4 h k x4 _ a b c hs (by omega) h0 h1
theorem fr_j2 {L : List Int} {i : Int} (h : Int) (k : Nat) (x4 : Int) (a b c : Int) (hs : St L i) (hk : 100003 < k) (h0 : 0 ≤ x4) (h1 : x4 ≤ 19) : ∃ kd fl st bs i' h', spec_l6Frame.j2 k x4 L i h a b c = some (kd, fl, st, bs, i', h') ∧ Bs 20 bs ∧ St L i' := by
  obtain ⟨k, rfl⟩ : ∃ m, k = m + 1 := ⟨k - 1, by omega⟩
  simp only [spec_l6Frame.j2]
  obtain ⟨x, i1, h2, e, s⟩ := once_f h 8 hs
  rw [e]
  simp only [Option.bind_some]
  cases x
  · simp only [Bool.false_eq_true, if_false]
    exact fr_j3 h2 k x4 a b c s (by omega) h0 (by omega)
  · simp only [if_true]
    rw [w64 (by omega) (by omega)]
    exact fr_j3 h2 k (x4 + 1) a b c s (by omega) (by omega) (by omega)
theorem fr_j1 {L : List Int} {i : Int} (h : Int) (k : Nat) (x4 y : Int) (x : Bool) (a b c : Int) (hs : St L i) (hk : 100004 < k) (h0 : 0 ≤ x4) (h1 : x4 ≤ 19) : ∃ kd fl st bs i' h', spec_l6Frame.j1 k x4 y x L i h a b c = some (kd, fl, st, bs, i', h') ∧ Bs 20 bs ∧ St L i' := by
  obtain ⟨k, rfl⟩ : ∃ m, k = m + 1 := ⟨k - 1, by omega⟩
  simp only [spec_l6Frame.j1]
  cases x
  · simp only [Bool.false_eq_true, if_false]
    by_cases c4 : y = 4
    · rw [if_pos c4]
      obtain ⟨z, i2, h2, e2, z0, z1, _, s2⟩ := below_f h 3 hs
      have := z1 (by omega)
      rw [e2]
      simp only [Option.bind_some]
      split
      · exact fr_j2 h2 k 0 a b c s2 (by omega) (by omega) (by omega)
      · rw [w64 (by omega) (by omega)]
        exact fr_j2 h2 k (6 * z) a b c s2 (by omega) (by omega) (by omega)
    · rw [if_neg c4]
      exact fr_j2 h k x4 a b c hs (by omega) h0 h1
  · simp only [if_true]
    exact fr_j2 h k 8 a b c hs (by omega) (by omega) (by omega)
theorem fr_j0 {L : List Int} {i : Int} (h : Int) (k : Nat) (x4 y : Int) (x : Bool) (a b c : Int) (hs : St L i) (hk : 100005 < k) (h0 : 0 ≤ x4) (h1 : x4 ≤ 19) : ∃ kd fl st bs i' h', spec_l6Frame.j0 k x4 y x L i h a b c = some (kd, fl, st, bs, i', h') ∧ Bs 20 bs ∧ St L i' := by
  obtain ⟨k, rfl⟩ : ∃ m, k = m + 1 := ⟨k - 1, by omega⟩
  simp only [spec_l6Frame.j0]
  cases x
  · simp only [Bool.false_eq_true, if_false]
    split
    · exact fr_j1 h k x4 y _ a b c hs (by omega) h0 h1
    · exact fr_j1 h k x4 y _ a b c hs (by omega) h0 h1
  · simp only [if_true]
    exact fr_j2 h k 4 a b c hs (by omega) (by omega) (by omega)
theorem frame6_f {L : List Int} {i : Int} (h : Int) (k : Nat) (hs : St L i) (hk : 100006 < k) : ∃ kd fl st bs i' h', spec_l6Frame.f k L i h = some (kd, fl, st, bs, i', h') ∧ Bs 20 bs ∧ St L i' := by
  unfold spec_l6Frame.f
  obtain ⟨x1, i1, h1, e1, _, _, _, s1⟩ := below_f h 11 hs
  rw [e1]
  simp only [Option.bind_some]
  obtain ⟨x2, i2, h2, e2, _, s2⟩ := int_f h1 [0, 1, 4, 5, 8, 12, 32, 44] s1 (by decide)
  rw [e2]
  simp only [Option.bind_some]
  obtain ⟨x3, i3, h3, e3, _, s3⟩ := int_f h2 [1, 1, 3, 0, 5] s2 (by decide)
  rw [e3]
  simp only [Option.bind_some]
  obtain ⟨x4, i4, h4, e4, m4, s4⟩ := int_f h3 [0, 1, 4, 5, 6, 8, 12] s3 (by decide)
  rw [e4]
  simp only [Option.bind_some]
  have : 0 ≤ x4 ∧ x4 ≤ 12 := by simp at m4; omega
  split
  · exact fr_j2 h4 k 5 _ _ _ s4 (by omega) (by omega) (by omega)
  · split
    · exact fr_j0 h4 k x4 _ _ _ _ _ s4 (by omega) (by omega) (by omega)
    · exact fr_j0 h4 k x4 _ _ _ _ _ s4 (by omega) (by omega) (by omega)
theorem Bs_zeros (n m : Nat) (h : n ≤ m) : Bs m (List.replicate n 0) := ⟨by simpa using h, fun x hx => by obtain ⟨_, rfl⟩ := List.mem_replicate.1 hx; omega⟩
theorem any6_f {L : List Int} {i : Int} (h : Int) (k : Nat) (hs : St L i) (hk : 100006 < k) : ∃ kd fl st bs i' h', spec_l6Any.f k L i h = some (kd, fl, st, bs, i', h') ∧ Bs 1001 bs ∧ St L i' := by
  unfold spec_l6Any.f
  obtain ⟨kd, fl, st, bs, i1, h1, e, hb, s⟩ := frame6_f h k hs hk
  rw [e]
  simp only [Option.bind_some]
  obtain ⟨x, i2, h2, e2, x0, x1, _, s2⟩ := below_f h1 14 s
  rw [e2]
  simp only [Option.bind_some]
  by_cases c0 : x = 0
  · rw [if_pos c0]
    obtain ⟨y, i3, h3, e3, _, s3⟩ := int_f h2 [-1, 256, 255] s2 (by decide)
    rw [e3]; exact ⟨_, _, _, _, _, _, rfl, hb.le (by omega), s3⟩
  · rw [if_neg c0]
    by_cases c1 : x = 1
    · rw [if_pos c1]
      obtain ⟨y, i3, h3, e3, _, s3⟩ := int_f h2 [-1, 256] s2 (by decide)
      rw [e3]; exact ⟨_, _, _, _, _, _, rfl, hb.le (by omega), s3⟩
    · rw [if_neg c1]
      by_cases c2 : x = 2
      · rw [if_pos c2]
        obtain ⟨y, i3, h3, e3, _, s3⟩ := int_f h2 [-1, 2147483648, 2147483647] s2 (by decide)
        rw [e3]; exact ⟨_, _, _, _, _, _, rfl, hb.le (by omega), s3⟩
      · rw [if_neg c2]
        by_cases c3 : x = 3
        · rw [if_pos c3]
          obtain ⟨y, i3, h3, e3, y0, y1, _, s3⟩ := below_f h2 2 s2
          have := y1 (by omega)
          rw [e3]
          simp only [Option.bind_some]
          rw [w64 (by omega) (by omega), if_pos (by omega), if_pos (by omega)]
          exact ⟨_, _, _, _, _, _, rfl, Bs_zeros _ _ (by omega), s3⟩
        · rw [if_neg c3]
          exact ⟨_, _, _, _, _, _, rfl, hb.le (by omega), s2⟩
theorem pad_f (l : List Int) (a : Int) (h : Bs 2000 l) (h0 : 0 ≤ a) (h1 : a < 256) : ∃ r, spec_Pad.f l a = some r ∧ Bs 4000 r := by
  unfold spec_Pad.f
  rw [if_neg (by omega), if_neg (by omega)]
  simp only [Option.bind_some]
  rw [if_pos (by simp; have := h.1; omega), if_pos h0, if_pos (by simp; have := h.1; omega)]
  refine ⟨_, rfl, ?_, ?_⟩
  · have := h.1; simp; omega
  · intro x hx
    simp only [List.mem_append, List.mem_singleton, List.mem_replicate] at hx
    rcases hx with (rfl | hx) | ⟨_, rfl⟩
    · omega
    · exact h.2 x hx
    · omega
theorem df_j0 {L : List Int} {i : Int} (h : Int) (k : Nat) (x14 : Int) (x15 : Bool) (n : Int) (g : Bool) (b : List Int) (kd fl st : Int) (l : List Int) (hs : St L i) (hk : 100001 < k) (hb : b.length ≤ 4000) (hl : Bs 1001 l) : ∃ n' g' b' kd' fl' st' l', spec_DrawFeed.j0 k x14 x15 L i h n g b kd fl st l = some (n', g', b', kd', fl', st', l') ∧ b'.length ≤ 4000 ∧ Bs 4000 l' := by
  obtain ⟨k, rfl⟩ : ∃ m, k = m + 1 := ⟨k - 1, by omega⟩
  simp only [spec_DrawFeed.j0]
  cases x15
  · simp only [Bool.false_eq_true, if_false]
    by_cases c : x14 = 2
    · rw [if_pos c]
      obtain ⟨x1, i1, h1, e1, _, s1⟩ := int_f h [4, 5, 12, 0] hs (by decide)
      rw [e1]
      simp only [Option.bind_some]
      obtain ⟨bs, i2, h2, e2, hb2, s2⟩ := some_f h1 k s1 (by omega)
      rw [e2]
      simp only [Option.bind_some]
      obtain ⟨x3, i3, h3, e3, y0, y1, _, s3⟩ := below_f h2 4 s2
      have := y1 (by omega)
      rw [e3]
      simp only [Option.bind_some]
      obtain ⟨r, e4, hr⟩ := pad_f bs x3 (hb2.le (by omega)) y0 (by omega)
      rw [e4]
      exact ⟨_, _, _, _, _, _, _, rfl, hb, hr⟩
    · rw [if_neg c]
      exact ⟨_, _, _, _, _, _, _, rfl, hb, hl.le (by omega)⟩
  · simp only [if_true]
    obtain ⟨x1, i1, h1, e1, _, s1⟩ := int_f h [1, 9] hs (by decide)
    rw [e1]
    simp only [Option.bind_some]
    by_cases c : n > 0
    · rw [if_pos c]
      obtain ⟨x2, i2, h2, e2, s2⟩ := once_f h1 5 s1
      rw [e2]
      simp only [Option.bind_some]
      obtain ⟨bs, i3, h3, e3, hb3, s3⟩ := some_f h2 k s2 (by omega)
      rw [e3]
      cases x2
      · exact ⟨_, _, _, _, _, _, _, rfl, hb, hb3.le (by omega)⟩
      · exact ⟨_, _, _, _, _, _, _, rfl, hb, hb3.le (by omega)⟩
    · rw [if_neg c]
      obtain ⟨bs, i3, h3, e3, hb3, s3⟩ := some_f h1 k s1 (by omega)
      rw [e3]
      exact ⟨_, _, _, _, _, _, _, rfl, hb, hb3.le (by omega)⟩
theorem drawFeed_f (L : List Int) (k : Nat) (hL : L.length ≤ 9223372036854775807) (hk : 100010 < k) : ∃ n g b kd fl st l, spec_DrawFeed.f k L = some (n, g, b, kd, fl, st, l) ∧ b.length ≤ 4000 ∧ Bs 4000 l := by
  unfold spec_DrawFeed.f
  obtain ⟨h0, e0⟩ := new_f L hL k (by omega)
  rw [e0]
  simp only [Option.bind_some]
  obtain ⟨n, g, b, i1, h1, e1, hb, s1⟩ := any8_f (L := L) (i := 0) h0 k ⟨by omega, by omega, by omega⟩ (by omega)
  rw [e1]
  simp only [Option.bind_some]
  obtain ⟨kd, fl, st, l, i2, h2, e2, hl, s2⟩ := any6_f h1 k s1 (by omega)
  rw [e2]
  simp only [Option.bind_some]
  obtain ⟨x3, i3, h3, e3, _, _, _, s3⟩ := below_f h2 4 s2
  rw [e3]
  simp only [Option.bind_some]
  split
  · exact df_j0 h3 k _ _ n g b kd fl st l s3 (by omega) (by omega) hl
  · exact df_j0 h3 k _ _ n g b kd fl st l s3 (by omega) (by omega) hl
theorem same_l0 (q : List Int) : ∀ (p : List Int) (k : Nat), q.length < k → (p ++ q).length ≤ 9223372036854775807 → laws_sameBytes.l0 k (p ++ q) (p ++ q) (p.length : Int) = some true := by
  induction q with
  | nil =>
    intro p k hk _
    obtain ⟨k, rfl⟩ : ∃ m, k = m + 1 := ⟨k - 1, by simp at hk; omega⟩
    simp only [laws_sameBytes.l0]
    rw [if_neg (len_end p)]
  | cons s q ih =>
    intro p k hk hl
    obtain ⟨k, rfl⟩ : ∃ m, k = m + 1 := ⟨k - 1, by simp at hk; omega⟩
    simp only [laws_sameBytes.l0]
    rw [if_pos (len_mid p s q), if_pos (nn _), if_pos (len_mid p s q), if_pos trivial, wi (m := (p ++ s :: q).length) (by simp <;> omega) hl]
    have := ih (p ++ [s]) k (by simp at hk; omega) (by simpa using hl)
    simpa using this
theorem same_f (l : List Int) (k : Nat) (hk : l.length < k) (hl : l.length ≤ 1048576) : laws_sameBytes.f k l l = some true := by
  unfold laws_sameBytes.f
  rw [if_pos rfl]
  simpa using same_l0 l [] k hk (by simp <;> omega)
theorem FnGathered : laws_FnGathered.Pure := by
  intro L hL
  refine ⟨200000, ?_⟩
  generalize hk : 200000 = k
  unfold laws_FnGathered.f laws_big.f
  simp only [Option.bind_some, decide_eq_true_eq]
  by_cases big : (L.length : Int) > 1048576
  · rw [if_pos big]
  rw [if_neg big]
  obtain ⟨n, g, b, kd, fl, st, l, e, hb, hl⟩ := drawFeed_f L k (by omega) (by omega)
  rw [e]
  simp only [Option.bind_some]
  obtain ⟨ok, e1, e2, hok⟩ := feed_f k n g b kd fl st l (by omega) (by omega) (by have := hl.1; omega) hl.2
  rw [e1, e2]
  simp only [Option.bind_some, if_true]
  have hsame := same_f b k (by omega) (by omega)
  -- a gatherer as it was, with a code that is neither 0 nor 1
  have back : ∀ c : Int, c ≠ 0 → c ≠ 1 → feedM n g b kd fl st l ok = (n, g, b, [], c) → (if (feedM n g b kd fl st l ok).2.2.2.2 = 0 then ((impl_GatherOk.f (feedM n g b kd fl st l ok).1 (feedM n g b kd fl st l ok).2.1 (feedM n g b kd fl st l ok).2.2.1).bind fun t582 => (if t582 = true then (some (((feedM n g b kd fl st l ok).2.2.2.1.length : Int) == 0)) else (none))) else (if (feedM n g b kd fl st l ok).2.2.2.2 = 1 then (if (feedM n g b kd fl st l ok).1 = 0 then (if ((feedM n g b kd fl st l ok).2.2.1.length : Int) = 0 then (some (decide (((feedM n g b kd fl st l ok).2.2.2.1.length : Int) ≤ 3000))) else (none)) else (none)) else (if (feedM n g b kd fl st l ok).1 = n then ((laws_sameBytes.f k (feedM n g b kd fl st l ok).2.2.1 b).bind fun t583 => (if t583 = true then (some (((feedM n g b kd fl st l ok).2.2.2.1.length : Int) == 0)) else (none))) else (none)))) = some true := by
    intro c h0 h1 h
    rw [h]
    simp [h0, h1, hsame]
  have join : ∀ n' h' u, 1 ≤ n' → n' ≤ 2147483647 → feedM n g b kd fl st l ok = joinM n g b fl n' h' u → (if (feedM n g b kd fl st l ok).2.2.2.2 = 0 then ((impl_GatherOk.f (feedM n g b kd fl st l ok).1 (feedM n g b kd fl st l ok).2.1 (feedM n g b kd fl st l ok).2.2.1).bind fun t582 => (if t582 = true then (some (((feedM n g b kd fl st l ok).2.2.2.1.length : Int) == 0)) else (none))) else (if (feedM n g b kd fl st l ok).2.2.2.2 = 1 then (if (feedM n g b kd fl st l ok).1 = 0 then (if ((feedM n g b kd fl st l ok).2.2.1.length : Int) = 0 then (some (decide (((feedM n g b kd fl st l ok).2.2.2.1.length : Int) ≤ 3000))) else (none)) else (none)) else (if (feedM n g b kd fl st l ok).1 = n then ((laws_sameBytes.f k (feedM n g b kd fl st l ok).2.2.1 b).bind fun t583 => (if t583 = true then (some (((feedM n g b kd fl st l ok).2.2.2.1.length : Int) == 0)) else (none))) else (none)))) = some true := by
    intro n' h' u g0 g1 h
    unfold joinM at h
    by_cases c1 : (u.length : Int) > 3000
    · rw [if_pos c1] at h; exact back 4 (by omega) (by omega) h
    · rw [if_neg c1] at h
      by_cases c2 : hasB fl 4 = true
      · rw [if_pos c2] at h
        rw [h]
        simp; omega
      · rw [if_neg c2] at h
        rw [h]
        obtain ⟨r, r1, _, _, r4, _⟩ := gok_same n' h' u
        simp [r1, r4 g0 g1 (by omega)]
  cases ok
  · exact back 2 (by omega) (by omega) rfl
  · obtain ⟨q1, q2, q3, q4, q5⟩ := hok rfl
    by_cases c1 : kd = 1
    · cases hu : unpadM (hasB fl 8) (kd == 1 && hasB fl 32) l with
      | none => exact back 3 (by omega) (by omega) (by simp only [feedM, if_true]; rw [if_pos c1, hu])
      | some u => exact join st (hasB fl 1) u (by have := q4 c1; omega) q3 (by simp only [feedM, if_true]; rw [if_pos c1, hu])
    · by_cases c9 : kd = 9
      · exact join n g (b ++ l) (by have := q5 c9; omega) (by omega) (by simp only [feedM, if_true]; rw [if_neg c1, if_pos c9])
      · have h : feedM n g b kd fl st l true = (n, g, b, [], 0) := by simp only [feedM, if_true]; rw [if_neg c1, if_neg c9]
        rw [h]
        obtain ⟨r, r1, _, _, r4, r5⟩ := gok_same n g b
        have hr : r = true := by
          rcases q1 with ⟨a1, a2, a3⟩ | ⟨a1, a2, a3⟩
          · exact r5 a1 a2 (List.length_eq_zero_iff.mp a3)
          · exact r4 a1 a2 a3
        simp [r1, hr]
end Go.Proofs.Ytjbecmaibifmlaa.Pure
