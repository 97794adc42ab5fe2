/- AN ABSTRACT MACHINE, 23: plain laws of what it computes: numbers, bytes. No condition of its own. -/
import Derived.Test.YtbkpmljdmlhmhaaA21
set_option linter.unusedVariables false
set_option linter.unusedSimpArgs false
namespace Go.AM
open Go AM

/-- a fact kept from the steps -/
def Hd (p : Prop) : Prop := p
theorem Hd.out {p : Prop} (h : Hd p) : p := h
theorem bt {b : Bool} (h : b = true) : b = true := h
theorem sz_len (s : ByteArray) : s.size = s.data.toList.length := by rw [Array.length_toList]; rfl

/-! ### numbers -/
theorem wrap64 {n : Int} (h1 : -9223372036854775808 ≤ n) (h2 : n ≤ 9223372036854775807) : IntKind.i64.wrap n = n := by
  simp [IntKind.wrap, IntKind.bits, IntKind.signed]
  omega
theorem wrapU64 {n : Int} (h1 : 0 ≤ n) (h2 : n ≤ 18446744073709551615) : IntKind.u64.wrap n = n := by
  simp [IntKind.wrap, IntKind.bits, IntKind.signed]
  omega
theorem wrapU32 {n : Int} (h1 : 0 ≤ n) (h2 : n ≤ 4294967295) : IntKind.u32.wrap n = n := by
  simp [IntKind.wrap, IntKind.bits, IntKind.signed]
  omega
theorem wrapU8 {n : Int} (h1 : 0 ≤ n) (h2 : n ≤ 255) : IntKind.u8.wrap n = n := by
  simp [IntKind.wrap, IntKind.bits, IntKind.signed]
  omega
theorem wrapU8n (n : Nat) : IntKind.u8.wrap (n : Int) = ((UInt8.ofNat n).toNat : Int) := by
  simp [IntKind.wrap, IntKind.bits, IntKind.signed]
theorem ofInt_nat (w n : Nat) : BitVec.ofInt w (n : Int) = BitVec.ofNat w n := by
  apply BitVec.eq_of_toInt_eq; simp [BitVec.toInt_ofInt, BitVec.toInt_ofNat]
theorem nat_xor {w a b : Nat} (ha : a < 2 ^ w) (hb : b < 2 ^ w) : (BitVec.ofInt w (a : Int) ^^^ BitVec.ofInt w (b : Int)).toNat = a ^^^ b := by
  rw [ofInt_nat, ofInt_nat, BitVec.toNat_xor, BitVec.toNat_ofNat, BitVec.toNat_ofNat, Nat.mod_eq_of_lt ha, Nat.mod_eq_of_lt hb]
theorem nat_and {w a b : Nat} (ha : a < 2 ^ w) (hb : b < 2 ^ w) : (BitVec.ofInt w (a : Int) &&& BitVec.ofInt w (b : Int)).toNat = a &&& b := by
  rw [ofInt_nat, ofInt_nat, BitVec.toNat_and, BitVec.toNat_ofNat, BitVec.toNat_ofNat, Nat.mod_eq_of_lt ha, Nat.mod_eq_of_lt hb]
theorem nat_or {w a b : Nat} (ha : a < 2 ^ w) (hb : b < 2 ^ w) : (BitVec.ofInt w (a : Int) ||| BitVec.ofInt w (b : Int)).toNat = a ||| b := by
  rw [ofInt_nat, ofInt_nat, BitVec.toNat_or, BitVec.toNat_ofNat, BitVec.toNat_ofNat, Nat.mod_eq_of_lt ha, Nat.mod_eq_of_lt hb]

theorem xor32 {a b : Nat} (ha : a < 4294967296) (hb : b < 4294967296) : IntKind.u32.wrap ((BitVec.ofInt IntKind.u32.bits (a : Int) ^^^ BitVec.ofInt IntKind.u32.bits (b : Int)).toNat : Int) = ((a ^^^ b : Nat) : Int) := by
  have h : a ^^^ b < 4294967296 := Nat.xor_lt_two_pow (n := 32) ha hb
  rw [show IntKind.u32.bits = 32 from rfl, nat_xor (w := 32) ha hb, wrapU32 (by omega) (by omega)]
theorem xor64 {a b : Nat} (ha : a < 9223372036854775808) (hb : b < 9223372036854775808) : IntKind.i64.wrap ((BitVec.ofInt IntKind.i64.bits (a : Int) ^^^ BitVec.ofInt IntKind.i64.bits (b : Int)).toNat : Int) = ((a ^^^ b : Nat) : Int) := by
  have h : a ^^^ b < 9223372036854775808 := Nat.xor_lt_two_pow (n := 63) ha hb
  rw [show IntKind.i64.bits = 64 from rfl, nat_xor (w := 64) (by omega) (by omega), wrap64 (by omega) (by omega)]
theorem or64 {a b : Nat} (ha : a < 9223372036854775808) (hb : b < 9223372036854775808) : IntKind.i64.wrap ((BitVec.ofInt IntKind.i64.bits (a : Int) ||| BitVec.ofInt IntKind.i64.bits (b : Int)).toNat : Int) = ((a ||| b : Nat) : Int) := by
  have h : a ||| b < 9223372036854775808 := Nat.or_lt_two_pow (n := 63) ha hb
  rw [show IntKind.i64.bits = 64 from rfl, nat_or (w := 64) (by omega) (by omega), wrap64 (by omega) (by omega)]
theorem and1_32 {a : Nat} (ha : a < 4294967296) : IntKind.u32.wrap ((BitVec.ofInt IntKind.u32.bits (a : Int) &&& BitVec.ofInt IntKind.u32.bits 1).toNat : Int) = ((a % 2 : Nat) : Int) := by
  rw [show IntKind.u32.bits = 32 from rfl, show (1 : Int) = ((1 : Nat) : Int) from rfl, nat_and (w := 32) ha (by decide), Nat.and_one_is_mod, wrapU32 (by omega) (by omega)]
theorem and1_64 {a : Nat} (ha : a < 9223372036854775808) : IntKind.i64.wrap ((BitVec.ofInt IntKind.i64.bits (a : Int) &&& BitVec.ofInt IntKind.i64.bits 1).toNat : Int) = ((a % 2 : Nat) : Int) := by
  rw [show IntKind.i64.bits = 64 from rfl, show (1 : Int) = ((1 : Nat) : Int) from rfl, nat_and (w := 64) (by omega) (by decide), Nat.and_one_is_mod, wrap64 (by omega) (by omega)]
theorem shr1 (a : Nat) : (a : Int).fdiv (2 ^ 1) = ((a / 2 : Nat) : Int) := by
  rw [Int.fdiv_eq_ediv_of_nonneg _ (by decide)]; omega

/-! ### bytes -/
abbrev bT (l : List UInt8) : List Tr := l.map fun b => Tr.int .u8 (b.toNat : Int)
theorem bT_len (l : List UInt8) : (bT l).length = l.length := List.length_map _
theorem bT_app (a b : List UInt8) : bT a ++ bT b = bT (a ++ b) := by simp [bT]
theorem bT_one (b : UInt8) : [Tr.int .u8 (b.toNat : Int)] = bT [b] := rfl
theorem bT_take (l : List UInt8) (n : Nat) : (bT l).take n = bT (l.take n) := by simp [bT]
theorem bT_drop (l : List UInt8) (n : Nat) : (bT l).drop n = bT (l.drop n) := by simp [bT]
theorem bT_plain (l : List UInt8) : Tr.plainL (bT l) := by
  induction l with
  | nil => trivial
  | cons b l ih => exact ⟨trivial, ih⟩
theorem bT_scal (l : List UInt8) : scal (bT l) := by
  intro t ht
  obtain ⟨b, _, rfl⟩ := List.mem_map.1 ht
  rfl
theorem bT_ints (l : List UInt8) : ∃ k : List Int, bT l = k.map (Tr.int .u8) := ⟨l.map fun b => (b.toNat : Int), by simp [bT]⟩
theorem bT_bytes (l : List UInt8) : (bT l).map AM.byteTr = l := by
  induction l with
  | nil => rfl
  | cons b l ih => simp only [bT, List.map_cons, List.map_map] at ih ⊢; rw [show AM.byteTr (Tr.int .u8 (b.toNat : Int)) = b from by simp [AM.byteTr]]; congr 1
theorem el_b {l : List UInt8} {i : Nat} (h : i < l.length) : el (bT l) 1 i = [Tr.int .u8 ((l.getD i 0).toNat : Int)] := by
  unfold el
  rw [Nat.mul_one, bT_drop, bT_take, List.drop_eq_getElem_cons h, List.take_succ_cons, List.take_zero]
  simp [List.getD_eq_getElem?_getD, h]
theorem el_bi {l : List UInt8} {i : Int} (h : 0 ≤ i ∧ i < (l.length : Int)) : el (bT l) 1 i.toNat = [Tr.int .u8 ((l.getD i.toNat 0).toNat : Int)] := el_b (by omega)
theorem upEl_b {l : List UInt8} {i : Nat} {x : UInt8} (h : i < l.length) : upEl (bT l) 1 i [Tr.int .u8 (x.toNat : Int)] = bT (l.set i x) := by
  unfold upEl
  rw [Nat.mul_one, bT_take, bT_drop, bT_one, bT_app, bT_app, List.set_eq_take_append_cons_drop, if_pos h]
  simp
theorem strAt_get {s : ByteArray} {i : Nat} : AM.strAt s (i : Int).toNat = ((s.data.toList.getD i 0).toNat : Int) := rfl
theorem getD_get {l : List UInt8} {i : Nat} (h : i < l.length) : l.getD i 0 = l[i] := by simp [List.getD_eq_getElem?_getD, h]
theorem take_succ_get {l : List UInt8} {i : Nat} (h : i < l.length) : l.take (i + 1) = l.take i ++ [l.getD i 0] := by
  rw [← List.take_append_getElem h, getD_get h]
theorem r_int {k : IntKind} {a b : Int} {ps : List PB} (h : a = b) : (Tr.int k a, ps) = (Tr.int k b, ps) := by rw [h]
theorem r_bool {a b : Bool} {ps : List PB} (h : a = b) : (Tr.bool a, ps) = (Tr.bool b, ps) := by rw [h]
theorem r_row {sz n n' : Nat} {cs cs' : List Tr} {ps : List PB} (hn : n = n') (h : cs = cs') : (Tr.row sz n cs, ps) = (Tr.row sz n' cs', ps) := by rw [h, hn]
@[simp] theorem u64_nonneg (n : Int) : 0 ≤ IntKind.u64.wrap n := by simp [IntKind.wrap, IntKind.bits, IntKind.signed]; omega
@[simp] theorem u32_nonneg (n : Int) : 0 ≤ IntKind.u32.wrap n := by simp [IntKind.wrap, IntKind.bits, IntKind.signed]; omega
@[simp] theorem u8_nonneg (n : Int) : 0 ≤ IntKind.u8.wrap n := by simp [IntKind.wrap, IntKind.bits, IntKind.signed]; omega
/-- the byte that a number is cut to -/
def ub (n : Int) : UInt8 := UInt8.ofNat (n % 256).toNat
theorem wrap_ub (n : Int) : IntKind.u8.wrap n = ((ub n).toNat : Int) := by
  simp [IntKind.wrap, IntKind.bits, IntKind.signed, ub]
  omega
theorem ub_nat (n : Nat) : ub (n : Int) = UInt8.ofNat n := by
  unfold ub
  apply UInt8.toNat_inj.1
  simp
  omega
theorem bT_snoc (l : List UInt8) (n : Int) : bT l ++ [Tr.int .u8 (IntKind.u8.wrap n)] = bT (l ++ [ub n]) := by
  rw [wrap_ub, bT_one, bT_app]
theorem bT_snoc2 (l : List UInt8) (n k : Int) : bT l ++ [Tr.int .u8 (IntKind.u8.wrap n), Tr.int .u8 (IntKind.u8.wrap k)] = bT (l ++ [ub n, ub k]) := by
  rw [wrap_ub, wrap_ub]; simp [bT]
theorem bT_cut (l : List UInt8) (a n : Nat) : ((bT l).drop (a * 1)).take (n * 1) = bT ((l.drop a).take n) := by
  rw [Nat.mul_one, Nat.mul_one, bT_drop, bT_take]
theorem nil_bT (l : List UInt8) : [] ++ bT l = bT l := rfl
theorem nil_snoc (n : Int) : [] ++ [Tr.int .u8 (IntKind.u8.wrap n)] = bT [ub n] := by rw [wrap_ub]; rfl
theorem nil_snoc2 (n k : Int) : [] ++ [Tr.int .u8 (IntKind.u8.wrap n), Tr.int .u8 (IntKind.u8.wrap k)] = bT [ub n, ub k] := by rw [wrap_ub, wrap_ub]; rfl
end Go.AM
