/- AN ABSTRACT MACHINE, 23: plain laws of what it computes: numbers, bytes. No condition of its own. -/
import Derived.Test.YtmckbfmadgfddaaMC
import Derived.KernelRfl
import Derived.Deep.Slices
import Derived.ChangeArms
import Derived.ChangeOld
import Derived.DataReads
import Derived.OpenShut
import Derived.WalkKit
import Derived.ProofKit
import Derived.ShutString
import Derived.Below
import Derived.Carry
import Derived.SizedLaws
set_option linter.unusedVariables false
set_option linter.unusedSimpArgs false
namespace Go.AM
open Go AM

/-- a fact kept from the steps -/
def Hd (p : Prop) : Prop := p
theorem Hd.out {p : Prop} (h : Hd p) : p := h
theorem bt {b : Bool} (h : b = true) : b = true := h
theorem sz_len (s : ByteArray) : s.size = s.data.toList.length := by rw [Array.length_toList]; rfl

/-! ### numbers -/
theorem wrap64 {n : Int} (h1 : -9223372036854775808 ≤ n) (h2 : n ≤ 9223372036854775807) : IntKind.i64.wrap n = n := by
  simp [IntKind.wrap, IntKind.bits, IntKind.signed]
  omega
theorem wrapU64 {n : Int} (h1 : 0 ≤ n) (h2 : n ≤ 18446744073709551615) : IntKind.u64.wrap n = n := by
  simp [IntKind.wrap, IntKind.bits, IntKind.signed]
  omega
theorem wrapU32 {n : Int} (h1 : 0 ≤ n) (h2 : n ≤ 4294967295) : IntKind.u32.wrap n = n := by
  simp [IntKind.wrap, IntKind.bits, IntKind.signed]
  omega
theorem wrapU8 {n : Int} (h1 : 0 ≤ n) (h2 : n ≤ 255) : IntKind.u8.wrap n = n := by
  simp [IntKind.wrap, IntKind.bits, IntKind.signed]
  omega
theorem wrapU8n (n : Nat) : IntKind.u8.wrap (n : Int) = ((UInt8.ofNat n).toNat : Int) := by
  simp [IntKind.wrap, IntKind.bits, IntKind.signed]
theorem ofInt_nat (w n : Nat) : BitVec.ofInt w (n : Int) = BitVec.ofNat w n := by
  apply BitVec.eq_of_toInt_eq; simp [BitVec.toInt_ofInt, BitVec.toInt_ofNat]
theorem nat_xor {w a b : Nat} (ha : a < 2 ^ w) (hb : b < 2 ^ w) : (BitVec.ofInt w (a : Int) ^^^ BitVec.ofInt w (b : Int)).toNat = a ^^^ b := by
  rw [ofInt_nat, ofInt_nat, BitVec.toNat_xor, BitVec.toNat_ofNat, BitVec.toNat_ofNat, Nat.mod_eq_of_lt ha, Nat.mod_eq_of_lt hb]
theorem nat_and {w a b : Nat} (ha : a < 2 ^ w) (hb : b < 2 ^ w) : (BitVec.ofInt w (a : Int) &&& BitVec.ofInt w (b : Int)).toNat = a &&& b := by
  rw [ofInt_nat, ofInt_nat, BitVec.toNat_and, BitVec.toNat_ofNat, BitVec.toNat_ofNat, Nat.mod_eq_of_lt ha, Nat.mod_eq_of_lt hb]
theorem nat_or {w a b : Nat} (ha : a < 2 ^ w) (hb : b < 2 ^ w) : (BitVec.ofInt w (a : Int) ||| BitVec.ofInt w (b : Int)).toNat = a ||| b := by
  rw [ofInt_nat, ofInt_nat, BitVec.toNat_or, BitVec.toNat_ofNat, BitVec.toNat_ofNat, Nat.mod_eq_of_lt ha, Nat.mod_eq_of_lt hb]

theorem xor32 {a b : Nat} (ha : a < 4294967296) (hb : b < 4294967296) : IntKind.u32.wrap ((BitVec.ofInt IntKind.u32.bits (a : Int) ^^^ BitVec.ofInt IntKind.u32.bits (b : Int)).toNat : Int) = ((a ^^^ b : Nat) : Int) := by
  have h : a ^^^ b < 4294967296 := Nat.xor_lt_two_pow (n := 32) ha hb
  rw [show IntKind.u32.bits = 32 from rfl, nat_xor (w := 32) ha hb, wrapU32 (by omega) (by omega)]
theorem xor64 {a b : Nat} (ha : a < 9223372036854775808) (hb : b < 9223372036854775808) : IntKind.i64.wrap ((BitVec.ofInt IntKind.i64.bits (a : Int) ^^^ BitVec.ofInt IntKind.i64.bits (b : Int)).toNat : Int) = ((a ^^^ b : Nat) : Int) := by
  have h : a ^^^ b < 9223372036854775808 := Nat.xor_lt_two_pow (n := 63) ha hb
  rw [show IntKind.i64.bits = 64 from rfl, nat_xor (w := 64) (by omega) (by omega), wrap64 (by omega) (by omega)]
theorem or64 {a b : Nat} (ha : a < 9223372036854775808) (hb : b < 9223372036854775808) : IntKind.i64.wrap ((BitVec.ofInt IntKind.i64.bits (a : Int) ||| BitVec.ofInt IntKind.i64.bits (b : Int)).toNat : Int) = ((a ||| b : Nat) : Int) := by
  have h : a ||| b < 9223372036854775808 := Nat.or_lt_two_pow (n := 63) ha hb
  rw [show IntKind.i64.bits = 64 from rfl, nat_or (w := 64) (by omega) (by omega), wrap64 (by omega) (by omega)]
theorem and1_32 {a : Nat} (ha : a < 4294967296) : IntKind.u32.wrap ((BitVec.ofInt IntKind.u32.bits (a : Int) &&& BitVec.ofInt IntKind.u32.bits 1).toNat : Int) = ((a % 2 : Nat) : Int) := by
  rw [show IntKind.u32.bits = 32 from rfl, show (1 : Int) = ((1 : Nat) : Int) from rfl, nat_and (w := 32) ha (by decide), Nat.and_one_is_mod, wrapU32 (by omega) (by omega)]
theorem and1_64 {a : Nat} (ha : a < 9223372036854775808) : IntKind.i64.wrap ((BitVec.ofInt IntKind.i64.bits (a : Int) &&& BitVec.ofInt IntKind.i64.bits 1).toNat : Int) = ((a % 2 : Nat) : Int) := by
  rw [show IntKind.i64.bits = 64 from rfl, show (1 : Int) = ((1 : Nat) : Int) from rfl, nat_and (w := 64) (by omega) (by decide), Nat.and_one_is_mod, wrap64 (by omega) (by omega)]
theorem shr1 (a : Nat) : (a : Int).fdiv (2 ^ 1) = ((a / 2 : Nat) : Int) := by
  rw [Int.fdiv_eq_ediv_of_nonneg _ (by decide)]; omega

/-! ### bytes -/
abbrev bT (l : List UInt8) : List Tr := l.map fun b => Tr.int .u8 (b.toNat : Int)
theorem bT_len (l : List UInt8) : (bT l).length = l.length := List.length_map _
theorem bT_app (a b : List UInt8) : bT a ++ bT b = bT (a ++ b) := by simp [bT]
theorem bT_one (b : UInt8) : [Tr.int .u8 (b.toNat : Int)] = bT [b] := rfl
theorem bT_take (l : List UInt8) (n : Nat) : (bT l).take n = bT (l.take n) := by simp [bT]
theorem bT_drop (l : List UInt8) (n : Nat) : (bT l).drop n = bT (l.drop n) := by simp [bT]
theorem bT_plain (l : List UInt8) : Tr.plainL (bT l) := by
  induction l with
  | nil => trivial
  | cons b l ih => exact ⟨trivial, ih⟩
theorem bT_scal (l : List UInt8) : scal (bT l) := by
  intro t ht
  obtain ⟨b, _, rfl⟩ := List.mem_map.1 ht
  rfl
theorem bT_ints (l : List UInt8) : ∃ k : List Int, bT l = k.map (Tr.int .u8) := ⟨l.map fun b => (b.toNat : Int), by simp [bT]⟩
theorem bT_bytes (l : List UInt8) : (bT l).map AM.byteTr = l := by
  induction l with
  | nil => rfl
  | cons b l ih => simp only [bT, List.map_cons, List.map_map] at ih ⊢; rw [show AM.byteTr (Tr.int .u8 (b.toNat : Int)) = b from by simp [AM.byteTr]]; congr 1
theorem el_b {l : List UInt8} {i : Nat} (h : i < l.length) : el (bT l) 1 i = [Tr.int .u8 ((l.getD i 0).toNat : Int)] := by
  unfold el
  rw [Nat.mul_one, bT_drop, bT_take, List.drop_eq_getElem_cons h, List.take_succ_cons, List.take_zero]
  simp [List.getD_eq_getElem?_getD, h]
theorem el_bi {l : List UInt8} {i : Int} (h : 0 ≤ i ∧ i < (l.length : Int)) : el (bT l) 1 i.toNat = [Tr.int .u8 ((l.getD i.toNat 0).toNat : Int)] := el_b (by omega)
theorem upEl_b {l : List UInt8} {i : Nat} {x : UInt8} (h : i < l.length) : upEl (bT l) 1 i [Tr.int .u8 (x.toNat : Int)] = bT (l.set i x) := by
  unfold upEl
  rw [Nat.mul_one, bT_take, bT_drop, bT_one, bT_app, bT_app, List.set_eq_take_append_cons_drop, if_pos h]
  simp
theorem strAt_get {s : ByteArray} {i : Nat} : AM.strAt s (i : Int).toNat = ((s.data.toList.getD i 0).toNat : Int) := rfl
theorem getD_get {l : List UInt8} {i : Nat} (h : i < l.length) : l.getD i 0 = l[i] := by simp [List.getD_eq_getElem?_getD, h]
theorem take_succ_get {l : List UInt8} {i : Nat} (h : i < l.length) : l.take (i + 1) = l.take i ++ [l.getD i 0] := by
  rw [← List.take_append_getElem h, getD_get h]
theorem r_int {k : IntKind} {a b : Int} {ps : List PB} (h : a = b) : (Tr.int k a, ps) = (Tr.int k b, ps) := by rw [h]
theorem r_bool {a b : Bool} {ps : List PB} (h : a = b) : (Tr.bool a, ps) = (Tr.bool b, ps) := by rw [h]
theorem r_row {sz n n' : Nat} {cs cs' : List Tr} {ps : List PB} (hn : n = n') (h : cs = cs') : (Tr.row sz n cs, ps) = (Tr.row sz n' cs', ps) := by rw [h, hn]
@[simp] theorem u64_nonneg (n : Int) : 0 ≤ IntKind.u64.wrap n := by simp [IntKind.wrap, IntKind.bits, IntKind.signed]; omega
@[simp] theorem u32_nonneg (n : Int) : 0 ≤ IntKind.u32.wrap n := by simp [IntKind.wrap, IntKind.bits, IntKind.signed]; omega
@[simp] theorem u8_nonneg (n : Int) : 0 ≤ IntKind.u8.wrap n := by simp [IntKind.wrap, IntKind.bits, IntKind.signed]; omega
/-- the byte that a number is cut to -/
def ub (n : Int) : UInt8 := UInt8.ofNat (n % 256).toNat
theorem wrap_ub (n : Int) : IntKind.u8.wrap n = ((ub n).toNat : Int) := by
  simp [IntKind.wrap, IntKind.bits, IntKind.signed, ub]
  omega
theorem ub_nat (n : Nat) : ub (n : Int) = UInt8.ofNat n := by
  unfold ub
  apply UInt8.toNat_inj.1
  simp
  omega
theorem bT_snoc (l : List UInt8) (n : Int) : bT l ++ [Tr.int .u8 (IntKind.u8.wrap n)] = bT (l ++ [ub n]) := by
  rw [wrap_ub, bT_one, bT_app]
theorem bT_snoc2 (l : List UInt8) (n k : Int) : bT l ++ [Tr.int .u8 (IntKind.u8.wrap n), Tr.int .u8 (IntKind.u8.wrap k)] = bT (l ++ [ub n, ub k]) := by
  rw [wrap_ub, wrap_ub]; simp [bT]
theorem bT_cut (l : List UInt8) (a n : Nat) : ((bT l).drop (a * 1)).take (n * 1) = bT ((l.drop a).take n) := by
  rw [Nat.mul_one, Nat.mul_one, bT_drop, bT_take]
theorem nil_bT (l : List UInt8) : [] ++ bT l = bT l := rfl
theorem nil_snoc (n : Int) : [] ++ [Tr.int .u8 (IntKind.u8.wrap n)] = bT [ub n] := by rw [wrap_ub]; rfl
theorem nil_snoc2 (n k : Int) : [] ++ [Tr.int .u8 (IntKind.u8.wrap n), Tr.int .u8 (IntKind.u8.wrap k)] = bT [ub n, ub k] := by rw [wrap_ub, wrap_ub]; rfl
end Go.AM
/- AN ABSTRACT MACHINE, 25: rows of structs: their elements. No condition of its own. -/
namespace Go.AM
open Go AM
section
variable {α : Type} {c : α → List Tr} {sz : Nat}
theorem fl_len (hsz : ∀ a, (c a).length = sz) : ∀ l : List α, (l.flatMap c).length = l.length * sz
  | [] => by simp
  | a :: l => by rw [List.flatMap_cons, List.length_append, hsz, fl_len hsz l, List.length_cons, Nat.succ_mul]; omega
theorem fl_app (l m : List α) : l.flatMap c ++ m.flatMap c = (l ++ m).flatMap c := List.flatMap_append.symm
theorem fl_drop (hsz : ∀ a, (c a).length = sz) : ∀ (l : List α) (n : Nat), (l.flatMap c).drop (n * sz) = (l.drop n).flatMap c
  | l, 0 => by simp
  | [], n + 1 => by simp
  | a :: l, n + 1 => by
    rw [List.flatMap_cons, Nat.succ_mul, Nat.add_comm, ← List.drop_drop, List.drop_left' (hsz a), List.drop_succ_cons]
    exact fl_drop hsz l n
theorem fl_take (hsz : ∀ a, (c a).length = sz) : ∀ (l : List α) (n : Nat), (l.flatMap c).take (n * sz) = (l.take n).flatMap c
  | l, 0 => by simp
  | [], n + 1 => by simp
  | a :: l, n + 1 => by
    rw [List.flatMap_cons, Nat.succ_mul, Nat.add_comm, List.take_append, hsz, List.take_of_length_le (by rw [hsz]; omega), List.take_succ_cons, List.flatMap_cons, Nat.add_sub_cancel_left]
    rw [fl_take hsz l n]
theorem fl_cut (hsz : ∀ a, (c a).length = sz) (l : List α) (a n : Nat) : ((l.flatMap c).drop (a * sz)).take (n * sz) = ((l.drop a).take n).flatMap c := by
  rw [fl_drop hsz, fl_take hsz]
theorem el_fl (hsz : ∀ a, (c a).length = sz) {l : List α} {i : Nat} {z : α} (h : i < l.length) : el (l.flatMap c) sz i = c (l.getD i z) := by
  unfold el
  have e : ∀ xs : List α, (xs.flatMap c).take sz = (xs.take 1).flatMap c := fun xs => by
    have := fl_take hsz xs 1
    rwa [Nat.one_mul] at this
  rw [fl_drop hsz, e, List.drop_eq_getElem_cons h, List.getD_eq_getElem?_getD, List.getElem?_eq_getElem h]
  simp only [List.take_succ_cons, List.take_zero, List.flatMap_cons, List.flatMap_nil, List.append_nil, Option.getD_some]
theorem upEl_fl (hsz : ∀ a, (c a).length = sz) {l : List α} {i : Nat} (h : i < l.length) (x : α) : upEl (l.flatMap c) sz i (c x) = (l.set i x).flatMap c := by
  unfold upEl
  rw [fl_take hsz, show i * sz + sz = (i + 1) * sz by rw [Nat.succ_mul], fl_drop hsz, List.set_eq_take_append_cons_drop, if_pos h]
  simp [List.flatMap_append, List.flatMap_cons]
theorem el_up {cs L : List Tr} {i : Nat} (h : L.length = sz) (h2 : i * sz ≤ cs.length) : el (upEl cs sz i L) sz i = L := by
  unfold el upEl
  rw [List.append_assoc, List.drop_left' (by rw [List.length_take]; omega), List.take_left' h]
theorem up_up {cs L L' : List Tr} {i : Nat} (h : L.length = sz) (h2 : i * sz ≤ cs.length) : upEl (upEl cs sz i L) sz i L' = upEl cs sz i L' := by
  unfold upEl
  have e : (cs.take (i * sz)).length = i * sz := by rw [List.length_take]; omega
  congr 1
  · congr 1
    rw [List.append_assoc, List.take_left' e]
  · rw [List.append_assoc, ← List.drop_drop, List.drop_left' e, List.drop_left' h]
theorem fl_plain (hp : ∀ a, Tr.plainL (c a)) : ∀ l : List α, Tr.plainL (l.flatMap c)
  | [] => trivial
  | a :: l => by
    rw [List.flatMap_cons]
    have : ∀ xs ys : List Tr, Tr.plainL xs → Tr.plainL ys → Tr.plainL (xs ++ ys) := by
      intro xs
      induction xs with
      | nil => intro ys _ h; exact h
      | cons x xs ih => intro ys h k; exact ⟨h.1, ih ys h.2 k⟩
    exact this _ _ (hp a) (fl_plain hp l)
theorem getD_set_same {l : List α} {i : Nat} {x z : α} (h : i < l.length) : (l.set i x).getD i z = x := by
  simp [List.getD_eq_getElem?_getD, h]
theorem take_set_succ {l : List α} {i : Nat} {x : α} (h : i < l.length) : (l.set i x).take (i + 1) = l.take i ++ [x] := by
  rw [List.set_eq_take_append_cons_drop, if_pos h, List.take_append, List.length_take, Nat.min_eq_left (by omega), List.take_take, Nat.min_eq_right (by omega)]
  simp
theorem take_succ_getD {l : List α} {i : Nat} {z : α} (h : i < l.length) : l.take (i + 1) = l.take i ++ [l.getD i z] := by
  simp [List.getD_eq_getElem?_getD, h]
end
theorem upEl_bi {l : List UInt8} {i x : Int} (h : 0 ≤ i ∧ i < (l.length : Int)) : upEl (bT l) 1 i.toNat [Tr.int .u8 (IntKind.u8.wrap x)] = bT (l.set i.toNat (ub x)) := by
  rw [wrap_ub]; exact upEl_b (by omega)
/-- bytes that are marked: k, k + 1, .. -/
def markL (k : Int) (n : Nat) : List UInt8 := (List.range n).map fun (i : Nat) => ub (k + (i : Int))
@[simp] theorem markL_len (k : Int) (n : Nat) : (markL k n).length = n := by simp [markL]
theorem markL_succ (k : Int) (n : Nat) : markL k (n + 1) = markL k n ++ [ub (k + (n : Int))] := by
  unfold markL; rw [List.range_succ, List.map_append]; rfl
theorem markL_get {k : Int} {n i : Nat} (h : i < n) : (markL k n).getD i 0 = ub (k + (i : Int)) := by
  unfold markL; simp [List.getD_eq_getElem?_getD, h]
theorem mark_step {l : List UInt8} {k : Int} {i : Nat} (h : i < l.length) : (markL k i ++ l.drop i).set i (ub (k + (i : Int))) = markL k (i + 1) ++ l.drop (i + 1) := by
  rw [List.set_append_right _ _ (by rw [markL_len]; exact Nat.le_refl _), markL_len, Nat.sub_self, List.drop_eq_getElem_cons h, List.set_cons_zero, markL_succ, List.append_assoc]
  rfl
end Go.AM
/- AN ABSTRACT MACHINE, 26: rows of strings, of bools, numbers; what a mark says. No condition of its own. -/
namespace Go.AM
open Go AM
abbrev emp : ByteArray := ⟨#[]⟩
abbrev sT (l : List ByteArray) : List Tr := l.map Tr.str
abbrev oT (l : List Bool) : List Tr := l.map Tr.bool
abbrev nT (l : List Int) : List Tr := l.map (Tr.int .i64)
section
variable {α : Type} {f : α → Tr}
theorem fm_one : ∀ l : List α, l.flatMap (fun a => [f a]) = l.map f
  | [] => rfl
  | a :: l => by rw [List.flatMap_cons, fm_one l]; rfl
theorem mp_el {l : List α} {i : Int} (z : α) (h : 0 ≤ i ∧ i < (l.length : Int)) : el (l.map f) 1 i.toNat = [f (l.getD i.toNat z)] := by
  have := el_fl (c := fun a => [f a]) (sz := 1) (fun _ => rfl) (l := l) (i := i.toNat) (z := z) (by omega)
  rwa [fm_one] at this
theorem mp_up {l : List α} {i : Int} {x : α} (h : 0 ≤ i ∧ i < (l.length : Int)) : upEl (l.map f) 1 i.toNat [f x] = (l.set i.toNat x).map f := by
  have := upEl_fl (c := fun a => [f a]) (sz := 1) (fun _ => rfl) (l := l) (i := i.toNat) (by omega) x
  rwa [fm_one, fm_one] at this
theorem mp_cut (l : List α) (a n : Nat) : ((l.map f).drop (a * 1)).take (n * 1) = ((l.drop a).take n).map f := by simp
theorem mp_take (l : List α) (n : Nat) : (l.map f).take (n * 1) = (l.take n).map f := by simp
theorem mp_app (l m : List α) : l.map f ++ m.map f = (l ++ m).map f := by simp
theorem mp_snoc (l : List α) (x : α) : l.map f ++ [f x] = (l ++ [x]).map f := by simp
theorem mp_nil (l : List α) : [] ++ l.map f = l.map f := by simp
theorem mp_one (x : α) : [] ++ [f x] = [x].map f := by simp
theorem zeros_mp {s : CK} {z : α} (h : s.tr = f z) : ∀ n : Nat, zeros [s] n = (List.replicate n z).map f
  | 0 => rfl
  | n + 1 => by
    show s.tr :: zeros [s] n = _
    rw [h, zeros_mp h n, List.replicate_succ, List.map_cons]
end
theorem zeros_s (n : Nat) : zeros [.sc (.str ⟨#[]⟩)] n = sT (List.replicate n emp) := zeros_mp (f := Tr.str) rfl n
theorem zeros_o (n : Nat) : zeros [.sc (.bool false)] n = oT (List.replicate n false) := zeros_mp (f := Tr.bool) rfl n
theorem zeros_n (n : Nat) : zeros [.sc (.int .i64 0)] n = nT (List.replicate n 0) := zeros_mp (f := Tr.int .i64) rfl n
theorem zeros_b (n : Nat) : zeros [.sc (.int .u8 0)] n = bT (List.replicate n 0) := zeros_mp (f := fun b : UInt8 => Tr.int .u8 (b.toNat : Int)) (z := (0 : UInt8)) rfl n
theorem mp_scal {α : Type} {f : α → Tr} (h : ∀ a, (f a).isSc = true) (l : List α) : scal (l.map f) := fun t ht => by
  obtain ⟨a, _, rfl⟩ := List.mem_map.1 ht
  exact h a
theorem mp_plain {α : Type} {f : α → Tr} (h : ∀ a, (f a).plain) : ∀ l : List α, Tr.plainL (l.map f)
  | [] => trivial
  | a :: l => ⟨h a, mp_plain h l⟩
theorem sT_scal (l : List ByteArray) : scal (sT l) := mp_scal (fun _ => rfl) l
theorem oT_scal (l : List Bool) : scal (oT l) := mp_scal (fun _ => rfl) l
theorem nT_scal (l : List Int) : scal (nT l) := mp_scal (fun _ => rfl) l
theorem sT_plain (l : List ByteArray) : Tr.plainL (sT l) := mp_plain (fun _ => by simp only [Tr.plain]) l
theorem oT_plain (l : List Bool) : Tr.plainL (oT l) := mp_plain (fun _ => by simp only [Tr.plain]) l
theorem nT_plain (l : List Int) : Tr.plainL (nT l) := mp_plain (fun _ => by simp only [Tr.plain]) l
theorem set_step {α : Type} {l : List α} {z : α} {n i : Nat} (h : i < l.length) : ((l.take i) ++ List.replicate (n - i) z).set i (l.getD i z) = l.take (i + 1) ++ List.replicate (n - (i + 1)) z ∨ n ≤ i := by
  rcases Nat.lt_or_ge i n with hn | hn
  · left
    rw [List.set_append_right _ _ (by rw [List.length_take]; omega), List.length_take, Nat.min_eq_left (by omega), Nat.sub_self, show n - i = (n - (i + 1)) + 1 by omega, List.replicate_succ, List.set_cons_zero, take_succ_getD (z := z) h, List.append_assoc]
    rfl
  · exact .inr hn
/-- how much of a size is left -/
def szGo {α : Type} (f : Int → α → Int) (left : Int) : List α → Int
  | [] => left
  | a :: l => if f left a < 0 then -1 else szGo f (f left a) l
def szM {α : Type} (f : Int → α → Int) (left : Int) (l : List α) : Int := if left - (l.length : Int) < 0 then -1 else szGo f (left - (l.length : Int)) l
/-- it takes at least m off -/
def Takes {α : Type} (f : Int → α → Int) (m : α → Nat) : Prop := ∀ left a, 0 ≤ left → 0 ≤ f left a → f left a + (m a : Int) ≤ left
theorem szGo_takes {α : Type} {f : Int → α → Int} {m : α → Nat} (hf : Takes f m) : ∀ {l : List α} {left : Int}, 0 ≤ left → 0 ≤ szGo f left l → szGo f left l + ((l.map m).sum : Int) ≤ left
  | [], left, h0, h => by simp [szGo]
  | a :: l, left, h0, h => by
    unfold szGo at h ⊢
    split at h
    · omega
    · rename_i h1
      rw [if_neg h1]
      have h2 := hf left a h0 (by omega)
      have h3 := szGo_takes hf (l := l) (left := f left a) (by omega) h
      simp only [List.map_cons, List.sum_cons]
      omega
theorem szM_takes {α : Type} {f : Int → α → Int} {m : α → Nat} (hf : Takes f m) : Takes (fun left l => szM f left l) (fun l => l.length + (l.map m).sum) := by
  intro left l h0 h
  simp only [szM] at h ⊢
  split at h
  · omega
  · rename_i h1
    rw [if_neg h1]
    have := szGo_takes hf (l := l) (by omega) h
    omega
theorem sum_le_of_mem {α : Type} {m : α → Nat} : ∀ {l : List α} {a : α}, a ∈ l → m a ≤ (l.map m).sum
  | b :: l, a, h => by
    simp only [List.map_cons, List.sum_cons]
    rcases List.mem_cons.1 h with rfl | h
    · omega
    · have := sum_le_of_mem (m := m) h; omega
theorem szGo_le {α : Type} {f : Int → α → Int} (hf : ∀ left a, f left a ≤ left) : ∀ {l : List α} {left : Int}, -1 ≤ left → szGo f left l ≤ left
  | [], left, h => by simp [szGo]
  | a :: l, left, h => by
    unfold szGo
    split
    · exact h
    · exact Int.le_trans (szGo_le hf (by omega)) (hf left a)
theorem szM_le {α : Type} {f : Int → α → Int} (hf : ∀ left a, f left a ≤ left) {l : List α} {left : Int} (h : -1 ≤ left) : szM f left l ≤ left := by
  unfold szM
  split
  · exact h
  · have := szGo_le hf (l := l) (left := left - (l.length : Int)) (by omega); omega
theorem szGo_step {α : Type} {f : Int → α → Int} {l : List α} {i : Nat} {z : α} {left : Int} (h : i < l.length) : szGo f left (l.drop i) = if f left (l.getD i z) < 0 then -1 else szGo f (f left (l.getD i z)) (l.drop (i + 1)) := by
  rw [List.drop_eq_getElem_cons h, List.getD_eq_getElem?_getD, List.getElem?_eq_getElem h]
  rfl
def szS (left : Int) (s : ByteArray) : Int := left - s.size
def szB (left : Int) (l : List UInt8) : Int := if left - (l.length : Int) < 0 then -1 else left - (l.length : Int)
theorem szS_takes : Takes szS ByteArray.size := fun left a h0 h => by unfold szS; omega
theorem szB_takes : Takes szB List.length := fun left a h0 h => by
  unfold szB at h ⊢
  split at h
  · omega
  · rename_i h1; rw [if_neg h1]; omega
/-- the text of a mark: m, and the number -/
def digsM (k : Nat) (o : ByteArray) : ByteArray := if h : k = 0 then o else digsM (k / 10) (⟨#[ub (48 + ((k % 10 : Nat) : Int))]⟩ ++ o)
  termination_by k
  decreasing_by omega
def textM (k : Int) : ByteArray := if k ≤ 0 then ⟨#[109, 48]⟩ else ⟨#[109]⟩ ++ digsM k.toNat emp
/-- strings that are marked -/
def markS (k : Int) (n : Nat) : List ByteArray := (List.range n).map fun (i : Nat) => textM (k + (i : Int))
@[simp] theorem markS_len (k : Int) (n : Nat) : (markS k n).length = n := by simp [markS]
theorem markS_succ (k : Int) (n : Nat) : markS k (n + 1) = markS k n ++ [textM (k + (n : Int))] := by
  unfold markS; rw [List.range_succ, List.map_append]; rfl
theorem markS_get {k : Int} {n i : Nat} (h : i < n) : (markS k n).getD i emp = textM (k + (i : Int)) := by
  unfold markS; simp [List.getD_eq_getElem?_getD, h]
theorem markS_step {l : List ByteArray} {k : Int} {i : Nat} (h : i < l.length) : (markS k i ++ l.drop i).set i (textM (k + (i : Int))) = markS k (i + 1) ++ l.drop (i + 1) := by
  rw [List.set_append_right _ _ (by rw [markS_len]; exact Nat.le_refl _), markS_len, Nat.sub_self, List.drop_eq_getElem_cons h, List.set_cons_zero, markS_succ, List.append_assoc]
  rfl
/-- elements that are marked, each by mk from the number that it finds; it takes m of them -/
def mkAll {α : Type} (mk : Int → α → α) (m : α → Nat) (k : Int) : List α → List α
  | [] => []
  | a :: l => mk k a :: mkAll mk m (k + m a) l
def kAll {α : Type} (m : α → Nat) (k : Int) (l : List α) : Int := k + ((l.map m).sum : Nat)
section
variable {α : Type} {mk : Int → α → α} {m : α → Nat}
@[simp] theorem mkAll_len : ∀ (k : Int) (l : List α), (mkAll mk m k l).length = l.length
  | k, [] => rfl
  | k, a :: l => by simp [mkAll, mkAll_len (k + m a) l]
theorem mkAll_app : ∀ (k : Int) (l l' : List α), mkAll mk m k (l ++ l') = mkAll mk m k l ++ mkAll mk m (kAll m k l) l'
  | k, [], l' => by simp [mkAll, kAll]
  | k, a :: l, l' => by
    have e : kAll m (k + m a) l = kAll m k (a :: l) := by simp [kAll]; omega
    simp [mkAll, mkAll_app (k + m a) l l', e]
theorem kAll_le {k : Int} {l : List α} (i : Nat) : k ≤ kAll m k (l.take i) ∧ kAll m k (l.take i) ≤ kAll m k l := by
  have h : (l.map m).sum = ((l.take i).map m).sum + ((l.drop i).map m).sum := by
    rw [← List.sum_append_nat, ← List.map_append, List.take_append_drop]
  unfold kAll; omega
theorem kAll_succ {k : Int} {l : List α} {i : Nat} {z : α} (h : i < l.length) : kAll m k (l.take (i + 1)) = kAll m k (l.take i) + m (l.getD i z) := by
  rw [take_succ_getD (z := z) h]; simp [kAll]; omega
theorem mkAll_at {k : Int} {l : List α} {i : Nat} {z : α} (h : i < l.length) : (mkAll mk m k (l.take i) ++ l.drop i).getD i z = l.getD i z := by
  simp [List.getD_eq_getElem?_getD, List.getElem?_append, List.length_take, Nat.min_eq_left (Nat.le_of_lt h)]
theorem mkAll_step {k : Int} {l : List α} {i : Nat} {z : α} (h : i < l.length) : (mkAll mk m k (l.take i) ++ l.drop i).set i (mk (kAll m k (l.take i)) (l.getD i z)) = mkAll mk m k (l.take (i + 1)) ++ l.drop (i + 1) := by
  have e : (mkAll mk m k (l.take i)).length = i := by rw [mkAll_len, List.length_take]; omega
  rw [List.set_append_right _ _ (by omega), e, Nat.sub_self, List.drop_eq_getElem_cons h, List.set_cons_zero, take_succ_getD (z := z) h, mkAll_app, List.append_assoc]
  rfl
theorem mkAll_get {k : Int} {l : List α} {i : Nat} {z : α} (h : i < l.length) : (mkAll mk m k l).getD i z = mk (kAll m k (l.take i)) (l.getD i z) := by
  have e : l = l.take i ++ l.getD i z :: l.drop (i + 1) := by
    rw [List.getD_eq_getElem?_getD, List.getElem?_eq_getElem h, Option.getD_some, ← List.drop_eq_getElem_cons h, List.take_append_drop]
  have hl : (mkAll mk m k (l.take i)).length = i := by rw [mkAll_len, List.length_take]; omega
  conv => lhs; rw [e]
  rw [mkAll_app, List.getD_eq_getElem?_getD, List.getElem?_append_right (by omega), hl, Nat.sub_self]
  rfl
end
end Go.AM
/- AN ABSTRACT MACHINE: what the steps ask beside, told once: each shows what it is asked by the tactic that it bears. -/
namespace Go.AM
open Go AM
theorem ka {p : Prop} (h : p := by first | assumption | rfl) : p := h
theorem kr_ {p : Prop} (h : p := by kernel_rfl) : p := h
theorem de_ {p : Prop} (h : p := by decide) : p := h
theorem side_ {p : Prop} (h : p := by first | omega | (simp only [decide_eq_true_eq, decide_eq_false_iff_not, Int.not_lt, Int.not_le, Bool.not_eq_true', Bool.not_eq_false', gt_iff_lt, ge_iff_le] at *; omega) | (simp_all <;> omega)) : p := h
theorem len_ {p : Prop} (h : p := by first | omega | (simp only [List.length_append, List.length_cons, List.length_nil, bigM_len, sz_len]; done) | (simp only [List.length_append, List.length_cons, List.length_nil, bigM_len, sz_len] at *; omega)) : p := h
theorem rq_ {p : Prop} (h : p := by first | assumption | exact trivial | exact ⟨rfl, rfl⟩ | exact rfl | exact bT_scal _ | exact bT_ints _ | exact bT_plain _ | exact sT_plain _ | exact sT_scal _ | exact oT_plain _ | exact oT_scal _ | exact nT_scal _ | exact ⟨[_], rfl⟩ | (unfold maxL; omega) | (simp [Tr.plainL, Tr.plain]; done) | (simp [scal, Tr.isSc]; done) | (simp_all <;> omega)) : p := h
theorem lk_ {p : Prop} (h : p := by first | exact bT_app _ _ | exact el_bi (by simp_all <;> omega) | exact nil_bT _ | exact nil_snoc _ | exact nil_snoc2 _ _ | exact bT_snoc _ _ | exact bT_snoc2 _ _ _ | exact bT_cut _ _ _ | exact upEl_bi side_) : p := h
theorem ok_ {p : Prop} (h : p := by first | trivial | exact bT_plain _ | (simp [Tr.okR, Tr.okRL, Tr.plainL, Tr.plain, cells1, Tr.cellB, bT_plain, PB.okRL, PB.okR]; done) | (simp [Tr.okR, Tr.okRL, Tr.plainL, Tr.plain, cells1, Tr.cellB, PB.okRL, PB.okR, bT_plain, sT_plain, oT_plain, nT_plain]; done)) : p := h
theorem w_lk {P : Program} {L : AV → Mem → Prop} {p : AM AV} {m m' : Mem} {l : List Tr} {k : List Tr → AM AV} (h : run1 p m = .look l k m') (hx : ∃ l', l = l' ∧ wpo P (k l') m' L) : wpo P p m L := by
  obtain ⟨l', e, hk⟩ := hx
  exact w_look h e hk
theorem l_lk {P : Program} {L : AV → Mem → List Nat → List Nat → Prop} {p : AM AV} {m m' : Mem} {A W A' W' : List Nat} {l : List Tr} {k : List Tr → AM AV} (h : run1L p m A W = .look l k m' A' W') (hx : ∃ l', l = l' ∧ wpoL P (k l') m' A' W' L) : wpoL P p m A W L := by
  obtain ⟨l', e, hk⟩ := hx
  exact l_look h e hk
end Go.AM
/- AN ABSTRACT MACHINE, 24: a law's row: what an argument reads as, out of what is known of it at the head; the law's call out of its contract. No condition of its own. -/
namespace Go.AM
open Go AM Go.RowKit Go.Deep Go.ChangeShapes Go.WideShapes
/-- what is of type t reads as some a: its cells are c a -/
def Opens {α : Type} (P : Program) (t : Nat) (c : α → List Tr) (bd : α → Prop) : Prop :=
  ∀ (H : Type) (enc : TypeId × Value → H) (w : World) (fuel : Nat) (cs : List Value) (x : DataW H × List MemPlace),
    DataW.trod enc P w 0 (fun _ => true) true fuel t cs = some x → ∃ a : α, RdL w.heap (fun k => k < w.heap.size) (c a) cs ∧ bd a
def bdI (lo hi : Int) (a : Int) : Prop := lo ≤ a ∧ a ≤ hi
def bdAny {α : Type} (_ : α) : Prop := True
def bdS (a : ByteArray) : Prop := a.size ≤ 9223372036854775807
def bdL {α : Type} (bd : α → Prop) (l : List α) : Prop := l.length ≤ 9223372036854775807 ∧ ∀ a, a ∈ l → bd a
theorem opens_i64 {P : Program} {t : TypeId} (hu : P.underlying t = some (.int .i64)) : Opens P t (fun a => [.int .i64 a]) (bdI (-9223372036854775808) 9223372036854775807) := by
  intro H enc w fuel cs x h
  obtain ⟨n, rfl, _, hw⟩ := DataW.trod_int hu h
  exact ⟨n, by simp [RdL, Rd], bounds_i64 hw⟩
theorem opens_u8 {P : Program} {t : TypeId} (hu : P.underlying t = some (.int .u8)) : Opens P t (fun a : UInt8 => [.int .u8 (a.toNat : Int)]) bdAny := by
  intro H enc w fuel cs x h
  obtain ⟨n, rfl, _, hw⟩ := DataW.trod_int hu h
  have hb := bounds_u8 hw
  refine ⟨UInt8.ofNat n.toNat, ?_, trivial⟩
  have : ((UInt8.ofNat n.toNat).toNat : Int) = n := by
    rw [UInt8.toNat_ofNat']; omega
  simp only [RdL, Rd, this]
  exact ⟨_, [], rfl, rfl, rfl⟩
theorem opens_bool {P : Program} {t : TypeId} (hu : P.underlying t = some .bool) : Opens P t (fun a => [.bool a]) bdAny := by
  intro H enc w fuel cs x h
  obtain ⟨n, rfl, _⟩ := DataW.trod_bool hu h
  exact ⟨n, by simp [RdL, Rd], trivial⟩
theorem opens_str {P : Program} {t : TypeId} (hu : P.underlying t = some .string) : Opens P t (fun a => [.str a]) bdS := by
  intro H enc w fuel cs x h
  obtain ⟨n, rfl, _, hs⟩ := DataW.trod_string hu h
  exact ⟨n, by simp [RdL, Rd], hs⟩
theorem RdL.flat {h : Heap} {S : Nat → Prop} {α : Type} {c : α → List Tr} {sz : Nat} (hsz : ∀ a, (c a).length = sz) {A : Addr} : ∀ {l : List α} {o : Nat}, (∀ i a, l[i]? = some a → ∃ vs, RdL h S (c a) vs ∧ ∀ j u, vs[j]? = some u → cellAt h (A.add (o + i * sz + j)) = some u) →
    ∃ vs, RdL h S (l.flatMap c) vs ∧ ∀ j u, vs[j]? = some u → cellAt h (A.add (o + j)) = some u
  | [], o, H => ⟨[], by simp [RdL], fun j u hj => by simp at hj⟩
  | a :: l, o, H => by
    obtain ⟨v1, r1, k1⟩ := H 0 a rfl
    obtain ⟨v2, r2, k2⟩ := RdL.flat hsz (A := A) (l := l) (o := o + sz) fun i b hb => by
      obtain ⟨vs, q1, q2⟩ := H (i + 1) b hb
      refine ⟨vs, q1, fun j u hj => ?_⟩
      have := q2 j u hj
      rw [Nat.succ_mul] at this
      rw [show o + sz + i * sz + j = o + (i * sz + sz) + j by omega]; exact this
    refine ⟨v1 ++ v2, by rw [List.flatMap_cons]; exact RdL.append r1 r2, fun j u hj => ?_⟩
    have hl : v1.length = sz := by rw [RdL.length r1, hsz]
    rw [List.getElem?_append] at hj
    split at hj
    · have := k1 j u hj; simpa using this
    · have := k2 _ u hj
      rw [show o + j = o + sz + (j - v1.length) by omega]; exact this
theorem flat_len {α : Type} {c : α → List Tr} {sz : Nat} (hsz : ∀ a, (c a).length = sz) : ∀ l : List α, (l.flatMap c).length = l.length * sz
  | [] => by simp
  | a :: l => by rw [List.flatMap_cons, List.length_append, hsz, flat_len hsz l, List.length_cons, Nat.succ_mul]; omega
theorem opens_slice {α : Type} {P : Program} {t e : TypeId} {c : α → List Tr} {bd : α → Prop} {sz : Nat} (hu : P.underlying t = some (.slice e)) (hc : P.cellsOf e = sz) (hsz : ∀ a, (c a).length = sz) (h0 : 0 < sz) (h1 : ∀ a, cells1 (c a)) (ho : Opens P e c bd) :
    Opens P t (fun l : List α => [.row sz l.length (l.flatMap c)]) (bdL bd) := by
  intro H enc w fuel cs x h
  rcases open_slice hu h with ⟨rfl, _⟩ | ⟨a, len, cap, m, n, D, Pl, rfl, hb, hl, hm, hmm, hx, hel⟩
  · exact ⟨[], by simp [RdL, Rd, cells1, maxL]; exact ⟨none, 0, ⟨rfl, rfl⟩, by omega⟩, by simp [bdL]⟩
  · have hlm : len ≤ m := by rw [hmm]; simpa using hl
    have hall : ∀ i, i < len → ∃ y : α, bd y ∧ ∃ vs, RdL w.heap (fun k => k < w.heap.size) (c y) vs ∧ ∀ j u, vs[j]? = some u → cellAt w.heap (a.add (i * sz + j)) = some u := by
      intro i hi
      obtain ⟨cs', hcs, ht⟩ := hel i (by omega)
      obtain ⟨y, hy, hbd⟩ := ho _ _ _ _ _ _ ht
      rw [hc] at hcs
      obtain ⟨_, hlen, hcell⟩ := World.cells?_some hcs
      refine ⟨y, hbd, cs', hy, fun j u hj => ?_⟩
      have hj2 := (List.getElem?_eq_some_iff.1 hj).1
      have h1 := hcell j (by omega)
      rw [Go.Deep.add_add, hj] at h1
      exact h1
    have hlen : (List.ofFn fun i : Fin len => Classical.choose (hall i.1 i.2)).length = len := by simp
    have hget : ∀ j p, (List.ofFn fun i : Fin len => Classical.choose (hall i.1 i.2))[j]? = some p → ∃ hj : j < len, p = Classical.choose (hall j hj) := by
      intro j p hp
      have hj : j < len := by have := (List.getElem?_eq_some_iff.1 hp).1; rw [hlen] at this; exact this
      refine ⟨hj, ?_⟩
      rw [List.getElem?_ofFn] at hp
      simp [hj] at hp
      exact hp.symm
    simp only [maxLen] at hm
    generalize hL : (List.ofFn fun i : Fin len => Classical.choose (hall i.1 i.2)) = L at hlen hget
    obtain ⟨vs, q1, q2⟩ := RdL.flat (h := w.heap) (S := fun k => k < w.heap.size) hsz (A := a) (l := L) (o := 0) fun i b hb => by
      obtain ⟨hj, rfl⟩ := hget i b hb
      obtain ⟨_, vs, e1, e2⟩ := Classical.choose_spec (hall i hj)
      exact ⟨vs, e1, fun j u hj => by rw [Nat.zero_add]; exact e2 j u hj⟩
    refine ⟨L, ?_, by rw [hlen]; omega, fun p hp => ?_⟩
    · simp only [RdL, Rd]
      have hfl := flat_len hsz L
      refine ⟨_, [], rfl, ⟨⟨hfl, fun t ht => ?_⟩, some a, cap, vs, by rw [hlen], by rw [hlen]; exact hl, hm, q1, fun hne => ⟨a, rfl, ?_, fun j u hj => by have := q2 j u hj; rwa [Nat.zero_add] at this⟩⟩, rfl⟩
      · obtain ⟨b, hb, ht⟩ := List.mem_flatMap.1 ht
        exact h1 b t ht
      · have hp : 0 < vs.length := by rw [RdL.length q1]; exact List.length_pos_iff.2 hne
        have := q2 0 _ (List.getElem?_eq_getElem hp)
        unfold cellAt at this
        split at this
        · rename_i hb
          have := lt_of_get hb
          rwa [add_block] at this
        · cases this
    · obtain ⟨j, hj2, hj⟩ := List.getElem_of_mem hp
      obtain ⟨hj3, rfl⟩ := hget j p (by rw [← hj]; exact List.getElem?_eq_getElem hj2)
      exact (Classical.choose_spec (hall j hj3)).1
/-- the fields of a struct from a place on -/
def OpensF {α : Type} (P : Program) (fs : List Field) (off N : Nat) (c : α → List Tr) (bd : α → Prop) : Prop :=
  ∀ (H : Type) (enc : TypeId × Value → H) (w : World) (fuel : Nat) (cs : List Value), cs.length = N → (∀ f, f ∈ fs → ∃ x, DataW.trod enc P w 0 (fun _ => true) true fuel f.type ((cs.drop f.offset).take (P.cellsOf f.type)) = some x) →
    ∃ a : α, RdL w.heap (fun k => k < w.heap.size) (c a) (cs.drop off) ∧ bd a
theorem opensF_nil {P : Program} {N : Nat} : OpensF P [] N N (fun _ : Unit => []) (fun _ => True) := by
  intro H enc w fuel cs hl _
  exact ⟨(), by rw [List.drop_eq_nil_of_le (by omega)]; simp [RdL], trivial⟩
theorem opensF_cons {α β : Type} {P : Program} {f : Field} {fs : List Field} {off N sz : Nat} {c : α → List Tr} {bd : α → Prop} {c2 : β → List Tr} {bd2 : β → Prop} (hf : f.offset = off) (hz : P.cellsOf f.type = sz) (h1 : Opens P f.type c bd) (h2 : OpensF P fs (off + sz) N c2 bd2) :
    OpensF P (f :: fs) off N (fun p : α × β => c p.1 ++ c2 p.2) (fun p => bd p.1 ∧ bd2 p.2) := by
  intro H enc w fuel cs hl hall
  obtain ⟨x, hx⟩ := hall f (by simp)
  obtain ⟨a, ha, hba⟩ := h1 _ _ _ _ _ _ hx
  obtain ⟨b, hb, hbb⟩ := h2 H enc w fuel cs hl (fun g hg => hall g (by simp [hg]))
  refine ⟨(a, b), ?_, hba, hbb⟩
  have : cs.drop off = (cs.drop off).take sz ++ cs.drop (off + sz) := by rw [← List.drop_drop, List.take_append_drop]
  rw [this]
  rw [hf, hz] at ha
  exact RdL.append ha hb
theorem opens_struct {α : Type} {P : Program} {t : TypeId} {fs : Array Field} {N : Nat} {c : α → List Tr} {bd : α → Prop} (hu : P.underlying t = some (.struct fs)) (hN : P.cellsOf t = N) (h : OpensF P fs.toList 0 N c bd) : Opens P t c bd := by
  intro H enc w fuel cs x hx
  obtain ⟨xs, n, _, _, hlen, hxl, hf⟩ := DataW.trod_struct hu hx
  rw [hN] at hlen
  obtain ⟨a, h1, h2⟩ := h H enc w n cs hlen fun f hm => by
    obtain ⟨i, hi⟩ := List.mem_iff_getElem?.1 hm
    rw [Array.getElem?_toList] at hi
    have := hf i f hi
    have hlt : i < xs.length := by rw [hxl]; exact (Array.getElem?_eq_some_iff.1 hi).1
    rw [List.getElem?_eq_getElem hlt] at this
    exact ⟨_, this⟩
  exact ⟨a, by simpa using h1, h2⟩
/-- another form of the same -/
theorem Opens.as {α β : Type} {P : Program} {t : TypeId} {c : α → List Tr} {bd : α → Prop} (h : Opens P t c bd) (f : α → β) {c2 : β → List Tr} {bd2 : β → Prop} (hc : ∀ a, c2 (f a) = c a) (hb : ∀ a, bd a → bd2 (f a)) : Opens P t c2 bd2 := by
  intro H enc w fuel cs x hx
  obtain ⟨a, h1, h2⟩ := h _ _ _ _ _ _ hx
  exact ⟨f a, by rw [hc]; exact h1, hb a h2⟩
/-! ### arguments -/
theorem PAokL_ro {h : Heap} {S : Nat → Prop} : ∀ {ts : List Tr} {vs : List Value}, cells1 ts → RdL h S ts vs → ∃ T, PAokL h S (ts.map PA.ro) vs [] T ∧ (∀ v, v ∈ vs → v.oneCell' = true) ∧ ∀ t, t ∈ T → t.oneCell' = true
  | [], vs, h1, H => by simp only [RdL] at H; subst H; exact ⟨[], by simp [PAokL], by simp, by simp⟩
  | t :: ts, vs, h1, H => by
    simp only [RdL] at H
    obtain ⟨v, us, rfl, r1, r2⟩ := H
    obtain ⟨T, q1, q2, q3⟩ := PAokL_ro (fun x hx => h1 x (by simp [hx])) r2
    have hv := Rd.one (h1 t (by simp)) r1
    refine ⟨(if t.isRow then [v] else []) ++ T, ?_, fun x hx => ?_, fun x hx => ?_⟩
    · simp only [List.map_cons, PAokL]
      exact ⟨v, us, [], [], _, T, rfl, by unfold PAok; exact ⟨r1, rfl, rfl⟩, q1, rfl, rfl⟩
    · rcases List.mem_cons.1 hx with rfl | hx
      · exact hv
      · exact q2 x hx
    · rcases List.mem_append.1 hx with hx | hx
      · split at hx
        · rw [List.mem_singleton.1 hx]; exact hv
        · cases hx
      · exact q3 x hx
/-- one argument: its cells as they are -/
def Arg (h : Heap) (p : PA) (v : Value) : Prop := ∃ T, PAok h (fun k => k < h.size) p v [] T ∧ ∀ t, t ∈ T → t.oneCell' = true
theorem arg_one {h : Heap} {t : Tr} {v : Value} (h1 : t.cellB = true) (H : RdL h (fun k => k < h.size) [t] [v]) : Arg h (.ro t) v := by
  simp only [RdL] at H
  obtain ⟨v', us, e, r, rfl⟩ := H
  simp only [List.cons.injEq, and_true] at e
  subst e
  refine ⟨_, by unfold PAok; exact ⟨r, rfl, rfl⟩, fun x hx => ?_⟩
  split at hx
  · rw [List.mem_singleton.1 hx]; exact Rd.one h1 r
  · cases hx
theorem arg_agg {h : Heap} {ts : List Tr} {vs : Array Value} (h1 : cells1 ts) (H : RdL h (fun k => k < h.size) ts vs.toList) : Arg h (.agg (ts.map PA.ro)) (.agg vs) := by
  obtain ⟨T, q1, q2, q3⟩ := PAokL_ro h1 H
  exact ⟨T, by simp only [PAok]; exact ⟨vs, rfl, q1, q2⟩, q3⟩
def ArgL (h : Heap) (ps : List PA) (vs : List Value) : Prop := ∃ T, PAokL h (fun k => k < h.size) ps vs [] T ∧ ∀ t, t ∈ T → t.oneCell' = true
theorem argL_nil {h : Heap} : ArgL h [] [] := ⟨[], by simp [PAokL], by simp⟩
theorem argL_cons {h : Heap} {p : PA} {ps : List PA} {v : Value} {vs : List Value} (h1 : Arg h p v) (h2 : ArgL h ps vs) : ArgL h (p :: ps) (v :: vs) := by
  obtain ⟨T1, a1, b1⟩ := h1
  obtain ⟨T2, a2, b2⟩ := h2
  refine ⟨T1 ++ T2, by simp only [PAokL]; exact ⟨v, vs, [], [], T1, T2, rfl, a1, a2, rfl, rfl⟩, fun t ht => ?_⟩
  rcases List.mem_append.1 ht with h | h
  · exact b1 t h
  · exact b2 t h
/-- A LAW: its call out of its contract -/
theorem law_calls {P : Program} {f : Nat} {fn : Func} {body : Code} {pas : List PA} {pbs : List PB} (hf : P.funcs[f]? = some fn) (hname : (fn.name == "runtime.NumGoroutine") = false) (hb : fn.body = some body) (hA : AGood P f pas (.bool true) pbs) {w : World} {vals : List Value} (hp : ArgL w.heap pas vals) :
    Calls P f vals.toArray w fun e w' => e = .returned (.bool true) ∧ Below w.heap.size w w' := by
  obtain ⟨T, h1, h2⟩ := hp
  have h := hA.2.2 w vals [] T (by simpa using h1) List.nodup_nil h2
  have henter : (callFunc f vals.toArray).run P w = .ok (.enter f vals.toArray) w := by
    have hname' : ¬ fn.name = "runtime.NumGoroutine" := by simpa using hname
    simp [callFunc, hf, hname', hb]
  unfold CallF at h
  rw [henter] at h
  simp only at h
  refine h.mono ?_
  rintro e w' ⟨v, F1, F2, rfl, hv, _, _, hfr⟩
  simp only [Ow] at hv
  rw [hv.1]
  exact ⟨rfl, hfr.os, hfr.tape, hfr.output, hfr.size, fun k hk => hfr.same k hk (by simp)⟩
end Go.AM
