import Derived.Test.YtbkpmljdmlhmhaaL1
import Derived.Test.YtbkpmljdmlhmhaaX1
import Derived.Test.YtbkpmljdmlhmhaaMD
import Derived.Test.YtbkpmljdmlhmhaaE6
import Derived.Test.YtbkpmljdmlhmhaaE5
namespace Go.Proofs.Ytbkpmljdmlhmhaa
open Go Go.AM Ty
set_option maxRecDepth 100000
set_option maxHeartbeats 4000000
set_option linter.unusedVariables false
set_option linter.unusedSimpArgs false
attribute [local irreducible] aw aops aopsD wpo wpoL condW guardW thenQ blockQ finQ Le AGood
theorem bigV_big (n : Nat) : ∀ k : Nat, bigV (bigM n k) = n % 256 ^ k := by
  have app : ∀ (l m : List UInt8) (v : Nat), (l ++ m).foldl (fun n b => n * 256 + b.toNat) v = m.foldl (fun n b => n * 256 + b.toNat) (l.foldl (fun n b => n * 256 + b.toNat) v) := fun l m v => List.foldl_append
  have gen : ∀ (k : Nat) (v : Nat), (bigM n k).foldl (fun n b => n * 256 + b.toNat) v = v * 256 ^ k + n % 256 ^ k := by
    intro k
    induction k with
    | zero => intro v; simp [bigM, Nat.mod_one]
    | succ k ih =>
      intro v
      unfold bigM
      rw [List.foldl_cons, ih]
      have e : (UInt8.ofNat (n / 256 ^ k)).toNat = n / 256 ^ k % 256 := by simp
      rw [e, Nat.pow_succ, Nat.mod_mul, Nat.add_mul, Nat.mul_assoc, Nat.mul_comm 256 (256 ^ k), Nat.mul_comm (n / 256 ^ k % 256)]
      omega
  intro k
  have := gen k 0
  unfold bigV
  rw [this]
  simp
theorem getV_app {p q t : List UInt8} {at_ k : Nat} (hk : 1 ≤ k ∧ k ≤ 7) (hp : p.length = at_) (hq : q.length = k) : getOk ((p ++ (q ++ t)).length : Nat) at_ k = true ∧ getV (p ++ (q ++ t)) at_ k = bigV q := by
  have h : getOk ((p ++ (q ++ t)).length : Nat) at_ k = true := by
    unfold getOk
    simp only [List.length_append, Bool.and_eq_true, decide_eq_true_eq]
    omega
  refine ⟨h, ?_⟩
  unfold getV
  rw [h]
  simp only [Int.toNat_natCast, if_true]
  rw [List.drop_left' hp, List.take_left' hq]
theorem ub_small {n : Nat} (h : n < 256) : bigV [ub (n : Int)] = n := by
  unfold bigV
  rw [ub_nat]
  simp
  omega
/-- what is put comes back, whatever stands behind it -/
theorem parse_put {r : Rc} (hok : recOkM r = true) (t : List UInt8) : parse (putQ r ++ t) = some r := by
  obtain ⟨h1, h2, h3, h4, h5, h6⟩ := recOk_nat hok
  have hs : (1 ≤ (r.s.size : Int)) ∧ ((r.s.size : Int) ≤ 8) := by
    unfold idOkM at h5
    simp only [Bool.and_eq_true, decide_eq_true_eq] at h5
    exact h5.2
  obtain ⟨a, b, k, s, n, d⟩ := r
  simp only at h1 h2 h3 h4 h5 h6 hs
  obtain ⟨a, rfl⟩ := Int.eq_ofNat_of_zero_le h1.1
  obtain ⟨b, rfl⟩ := Int.eq_ofNat_of_zero_le h2.1
  obtain ⟨k, rfl⟩ := Int.eq_ofNat_of_zero_le (by omega : 0 ≤ k)
  obtain ⟨n, rfl⟩ := Int.eq_ofNat_of_zero_le h4.1
  have hl : s.data.toList.length = s.size := (sz_len s).symm
  obtain ⟨l, hL⟩ : ∃ l, l = putQ ⟨(a : Int), (b : Int), (k : Int), s, (n : Int), d⟩ ++ t := ⟨_, rfl⟩
  have e1 : l = [] ++ (bigM a 3 ++ (bigM b 2 ++ ([ub k] ++ ([ub s.size] ++ (s.data.toList ++ (bigM n 4 ++ ([ub d.length] ++ (d ++ t)))))))) := by rw [hL]; simp [putQ]
  have e2 : l = bigM a 3 ++ (bigM b 2 ++ ([ub k] ++ ([ub s.size] ++ (s.data.toList ++ (bigM n 4 ++ ([ub d.length] ++ (d ++ t))))))) := by rw [hL]; simp [putQ]
  have e3 : l = (bigM a 3 ++ bigM b 2) ++ ([ub k] ++ ([ub s.size] ++ (s.data.toList ++ (bigM n 4 ++ ([ub d.length] ++ (d ++ t)))))) := by rw [hL]; simp [putQ]
  have e4 : l = (bigM a 3 ++ bigM b 2 ++ [ub k]) ++ ([ub s.size] ++ (s.data.toList ++ (bigM n 4 ++ ([ub d.length] ++ (d ++ t))))) := by rw [hL]; simp [putQ]
  have e5 : l = (bigM a 3 ++ bigM b 2 ++ [ub k] ++ [ub s.size]) ++ (s.data.toList ++ (bigM n 4 ++ ([ub d.length] ++ (d ++ t)))) := by rw [hL]; simp [putQ]
  have e6 : l = (bigM a 3 ++ bigM b 2 ++ [ub k] ++ [ub s.size] ++ s.data.toList) ++ (bigM n 4 ++ ([ub d.length] ++ (d ++ t))) := by rw [hL]; simp [putQ]
  have e7 : l = (bigM a 3 ++ bigM b 2 ++ [ub k] ++ [ub s.size] ++ s.data.toList ++ bigM n 4) ++ ([ub d.length] ++ (d ++ t)) := by rw [hL]; simp [putQ]
  have e8 : l = (bigM a 3 ++ bigM b 2 ++ [ub k] ++ [ub s.size] ++ s.data.toList ++ bigM n 4 ++ [ub d.length]) ++ (d ++ t) := by rw [hL]; simp [putQ]
  have g1 := getV_app (p := []) (q := bigM a 3) (t := bigM b 2 ++ ([ub k] ++ ([ub s.size] ++ (s.data.toList ++ (bigM n 4 ++ ([ub d.length] ++ (d ++ t))))))) (at_ := 0) (k := 3) (by decide) rfl (bigM_len _ _)
  rw [← e1, bigV_big] at g1
  have g2 := getV_app (p := bigM a 3) (q := bigM b 2) (t := [ub k] ++ ([ub s.size] ++ (s.data.toList ++ (bigM n 4 ++ ([ub d.length] ++ (d ++ t)))))) (at_ := 3) (k := 2) (by decide) (bigM_len _ _) (bigM_len _ _)
  rw [← e2, bigV_big] at g2
  have g3 := getV_app (p := bigM a 3 ++ bigM b 2) (q := [ub k]) (t := [ub s.size] ++ (s.data.toList ++ (bigM n 4 ++ ([ub d.length] ++ (d ++ t))))) (at_ := 5) (k := 1) (by decide) (by simp) rfl
  rw [← e3, ub_small (by omega)] at g3
  have g4 := getV_app (p := bigM a 3 ++ bigM b 2 ++ [ub k]) (q := [ub s.size]) (t := s.data.toList ++ (bigM n 4 ++ ([ub d.length] ++ (d ++ t)))) (at_ := 6) (k := 1) (by decide) (by simp) rfl
  rw [← e4, ub_small (by omega)] at g4
  have g5 := getV_app (p := bigM a 3 ++ bigM b 2 ++ [ub k] ++ [ub s.size] ++ s.data.toList) (q := bigM n 4) (t := [ub d.length] ++ (d ++ t)) (at_ := 7 + s.size) (k := 4) (by decide) (by simp [hl]; omega) (bigM_len _ _)
  rw [← e6, bigV_big] at g5
  have g6 := getV_app (p := bigM a 3 ++ bigM b 2 ++ [ub k] ++ [ub s.size] ++ s.data.toList ++ bigM n 4) (q := [ub d.length]) (t := d ++ t) (at_ := 11 + s.size) (k := 1) (by decide) (by simp [hl]; omega) rfl
  rw [← e7, ub_small (by omega)] at g6
  have hlen : l.length = 12 + s.size + d.length + t.length := by rw [e8]; simp [hl]; omega
  have t1 : (l.drop 7).take s.size = s.data.toList := by
    rw [e5, List.drop_left' (by simp), List.take_left' hl]
  have t2 : (l.drop (12 + s.size)).take d.length = d := by
    rw [e8, List.drop_left' (by simp [hl]; omega), List.take_left' rfl]
  rw [← hL]
  unfold parse
  have c4 : getV l 6 1 = (s.size : Int) := g4.2
  have c6 : getV l (11 + (s.size : Int)) 1 = (d.length : Int) := by have := g6.2; simpa using this
  have c5 : getV l (7 + (s.size : Int)) 4 = (n : Int) := by have := g5.2; rw [Nat.mod_eq_of_lt (by omega)] at this; simpa using this
  rw [c4, c6, if_pos, c5]
  · have z1 : getV l 0 3 = (a : Int) := by have := g1.2; rw [Nat.mod_eq_of_lt (by omega)] at this; simpa using this
    have z2 : getV l 3 2 = (b : Int) := by have := g2.2; rw [Nat.mod_eq_of_lt (by omega)] at this; simpa using this
    have z3 : getV l 5 1 = (k : Int) := by have := g3.2; simpa using this
    rw [z1, z2, z3, show ((12 : Int) + (s.size : Int)).toNat = 12 + s.size by omega, Int.toNat_natCast, Int.toNat_natCast, t1, t2]
  · simp only [Bool.and_eq_true, decide_eq_true_eq]
    refine ⟨⟨⟨⟨⟨⟨⟨g1.1, g2.1⟩, g3.1⟩, g4.1⟩, by omega⟩, ?_⟩, ?_⟩, by omega⟩
    · have := g5.1; simpa using this
    · have := g6.1; simpa using this
end Go.Proofs.Ytbkpmljdmlhmhaa
namespace Go.Proofs.Ytbkpmljdmlhmhaa
open Go Go.AM Ty
set_option maxRecDepth 100000
set_option maxHeartbeats 4000000
set_option linter.unusedVariables false
set_option linter.unusedSimpArgs false
attribute [local irreducible] aw aops aopsD wpo wpoL condW guardW thenQ blockQ finQ Le AGood
theorem lk_D1 {p : Prop} (h : p := by first | exact bT_app _ _ | exact mp_el (f := Tr.str) emp side_ | exact mp_el (f := Tr.int .i64) 0 side_ | exact lk_) : p := h
structure Cur where
  i : Int
  h : Int
def Cur.ok (c : Cur) (l : List UInt8) : Prop := 0 ≤ c.i ∧ c.i ≤ l.length
abbrev curPA (l : List UInt8) (n : Nat) (c : Cur) : PA := .box 124 [.ro (.row 1 n (bT l)), .ro (.int .i64 c.i), .ro (.int .i64 c.h)]
abbrev curPB (c : Cur) : PB := .box [.tag 0, .int .i64 c.i, .int .i64 c.h]
def andI (a b : Int) : Int := IntKind.i64.wrap ((BitVec.ofInt IntKind.i64.bits a &&& BitVec.ofInt IntKind.i64.bits b).toNat : Int)
def xorI (a b : Int) : Int := IntKind.i64.wrap ((BitVec.ofInt IntKind.i64.bits a ^^^ BitVec.ofInt IntKind.i64.bits b).toNat : Int)
theorem andI_255 (a : Int) : 0 ≤ andI a 255 ∧ andI a 255 ≤ 255 := by
  unfold andI
  have h : (BitVec.ofInt IntKind.i64.bits a &&& BitVec.ofInt IntKind.i64.bits 255).toNat ≤ 255 := by
    rw [BitVec.toNat_and]
    exact Nat.le_trans Nat.and_le_right (by decide)
  rw [wrap64 (by omega) (by omega)]
  omega
def byH (c : Cur) : Int := IntKind.i64.wrap (IntKind.i64.wrap (c.h * 6364136223846793005) + 1442695040888963407)
def byX0 (c : Cur) : Int := andI (xorI ((byH c).fdiv (2 ^ (min (33 : Int).toNat IntKind.i64.bits))) ((byH c).fdiv (2 ^ (min (47 : Int).toNat IntKind.i64.bits)))) 255
def byC (l : List UInt8) (c : Cur) : Cur := if c.i < l.length then ⟨c.i + 1, byH c⟩ else ⟨c.i, byH c⟩
def byX (l : List UInt8) (c : Cur) : Int := if c.i < l.length then andI (IntKind.i64.wrap (byX0 c + IntKind.i64.wrap (((l.getD c.i.toNat 0).toNat : Nat) : Int))) 255 else byX0 c
theorem byC_ok {l : List UInt8} {c : Cur} (h : c.ok l) : (byC l c).ok l := by
  unfold Cur.ok byC at *
  split <;> simp only <;> omega
theorem byX_bd (l : List UInt8) (c : Cur) : 0 ≤ byX l c ∧ byX l c ≤ 255 := by
  unfold byX
  split
  · exact andI_255 _
  · exact andI_255 _
theorem l1Byte (l : List UInt8) {n : Nat} (hn : n = l.length) (c : Cur) (hc : c.ok l) (hl : l.length ≤ 4294967296) : AGood e.P 143 [curPA l n c] (.int .i64 (byX l c)) [curPB (byC l c)] := by
  subst hn
  obtain ⟨hc1, hc2⟩ := hc
  refine agood eok (fn := Try.f143) kr_ de_ rfl kr_ ok_ ok_ ?_
  repeat' (first | refine o_cons ?_ | refine w_ok rfl ?_ | refine o_nil ?_ | refine q_then ?_ | refine sq ?_ | refine aw_seq ?_ | refine aw_reg ?_ | refine w_pT rfl ka rfl ?_ | refine w_pF rfl ka rfl ?_ | refine o_y rfl ka ?_ | refine o_nT rfl ka ?_ | refine o_nF rfl ka ?_ | refine o_nU rfl ?_ | refine aw_cT rfl ka ?_ | refine aw_cF rfl ka ?_ | refine o_gT rfl (fun h => ?_) (fun h => ?_) | refine o_gF rfl (fun h => ?_) (fun h => ?_) | refine aw_cond rfl (fun h => ?_) (fun h => ?_) | refine aw_block ?_ | refine aw_skip ?_ | refine aw_ret ?_ | refine q_ret ?_ | refine q_blockN ?_ | refine q_blockR ?_ | refine aw_exit ?_ | refine q_exit ?_ | refine q_blockE ?_ | refine q_blockX de_ ?_ | refine fin_r rfl ?_ | (refine w_req rfl ?_ ?_; · exact rq_) | (refine w_lk rfl ?_; refine ⟨_, lk_D1, ?_⟩) | refine w_look (l' := _ :: _) rfl rfl ?_ | refine w_look (l' := []) rfl rfl ?_ | refine w_req rfl ?_ ?_ | refine w_pick rfl (fun b => ?_) | refine aw_drw kr_ ?_ | refine d_cons ?_ | refine l_ok rfl ?_ | refine d_nil kr_ ?_ | refine d_y rfl ka ?_ | refine d_nT rfl ka ?_ | refine d_nF rfl ka ?_ | refine d_nU rfl ?_ | refine l_pT rfl ka rfl ?_ | refine l_pF rfl ka rfl ?_ | refine d_gT rfl (fun h => ?_) (fun h => ?_) | refine d_gF rfl (fun h => ?_) (fun h => ?_) | (refine l_req rfl ?_ ?_; · exact rq_) | (refine l_lk rfl ?_; refine ⟨_, lk_D1, ?_⟩) | refine l_look (l' := _ :: _) rfl rfl ?_ | refine l_look (l' := []) rfl rfl ?_ | refine l_req rfl ?_ ?_)
  · have h' : c.i < l.length := by simpa using h
    unfold byX byC
    rw [if_pos h', if_pos h']
    have : IntKind.i64.wrap (c.i + 1) = c.i + 1 := wrap64 (by omega) (by omega)
    rw [this]
    rfl
  · have h' : ¬ c.i < l.length := by simpa using h
    unfold byX byC
    rw [if_neg h', if_neg h']
    rfl
attribute [local irreducible] byC byX
def bwC (l : List UInt8) (c : Cur) (n : Int) : Cur := if n ≤ 0 then c else if n ≤ 256 then byC l c else byC l (byC l (byC l c))
def bwX (l : List UInt8) (c : Cur) (n : Int) : Int := if n ≤ 0 then 0 else if n ≤ 256 then (byX l c).tmod n else
  (IntKind.i64.wrap (IntKind.i64.wrap (IntKind.i64.wrap (byX l c * 65536) + IntKind.i64.wrap (byX l (byC l c) * 256)) + byX l (byC l (byC l c)))).tmod n
theorem bwC_ok {l : List UInt8} {c : Cur} (n : Int) (h : c.ok l) : (bwC l c n).ok l := by
  unfold bwC
  split
  · exact h
  · split
    · exact byC_ok h
    · exact byC_ok (byC_ok (byC_ok h))
theorem tmod_bd {a n : Int} (ha : 0 ≤ a) (hn : 0 < n) : 0 ≤ a.tmod n ∧ a.tmod n < n := by
  rw [Int.tmod_eq_emod_of_nonneg ha]
  exact ⟨Int.emod_nonneg _ (by omega), Int.emod_lt_of_pos _ hn⟩
theorem bwX_bd (l : List UInt8) (c : Cur) {n : Int} (hn : 0 < n) : 0 ≤ bwX l c n ∧ bwX l c n < n := by
  unfold bwX
  rw [if_neg (by omega)]
  have b1 := byX_bd l c
  have b2 := byX_bd l (byC l c)
  have b3 := byX_bd l (byC l (byC l c))
  split
  · exact tmod_bd b1.1 hn
  · rw [wrap64 (n := byX l c * 65536) (by omega) (by omega), wrap64 (n := byX l (byC l c) * 256) (by omega) (by omega), wrap64 (n := byX l c * 65536 + byX l (byC l c) * 256) (by omega) (by omega), wrap64 (by omega) (by omega)]
    exact tmod_bd (by omega) hn
theorem l1Below (l : List UInt8) {m : Nat} (hm : m = l.length) (c : Cur) (n : Int) (hc : c.ok l) (hl : l.length ≤ 4294967296) : AGood e.P 116 [curPA l m c, .ro (.int .i64 n)] (.int .i64 (bwX l c n)) [curPB (bwC l c n), .keep] := by
  subst hm
  unfold bwX bwC
  rcases Int.lt_or_le 0 n with h0 | h0
  · have k0 : decide (n ≤ 0) = false := by simpa using h0
    have hn0 : n ≠ 0 := by omega
    have q0 : ¬ n ≤ 0 := by omega
    simp only [if_neg q0]
    rcases Int.lt_or_le 256 n with h1 | h1
    · have k1 : decide (n ≤ 256) = false := by simpa using h1
      have q1 : ¬ n ≤ 256 := by omega
      simp only [if_neg q1]
      refine agood eok (fn := Try.f116) kr_ de_ rfl kr_ ok_ ok_ ?_
      repeat' (first | refine o_cons ?_ | refine w_ok rfl ?_ | refine w_call rfl (l1Byte l rfl c hc hl) ?_ | refine w_call rfl (l1Byte l rfl _ (byC_ok hc) hl) ?_ | refine w_call rfl (l1Byte l rfl _ (byC_ok (byC_ok hc)) hl) ?_ | refine o_nil ?_ | refine q_then ?_ | refine sq ?_ | refine aw_seq ?_ | refine aw_reg ?_ | refine w_pT rfl ka rfl ?_ | refine w_pF rfl ka rfl ?_ | refine o_y rfl ka ?_ | refine o_nT rfl ka ?_ | refine o_nF rfl ka ?_ | refine o_nU rfl ?_ | refine aw_cT rfl ka ?_ | refine aw_cF rfl ka ?_ | refine o_gT rfl (fun h => ?_) (fun h => ?_) | refine o_gF rfl (fun h => ?_) (fun h => ?_) | refine aw_cond rfl (fun h => ?_) (fun h => ?_) | refine aw_block ?_ | refine aw_skip ?_ | refine aw_ret ?_ | refine q_ret ?_ | refine q_blockN ?_ | refine q_blockR ?_ | refine aw_exit ?_ | refine q_exit ?_ | refine q_blockE ?_ | refine q_blockX de_ ?_ | refine fin_r rfl ?_ | (refine w_req rfl ?_ ?_; · exact rq_) | (refine w_lk rfl ?_; refine ⟨_, lk_D1, ?_⟩) | refine w_look (l' := _ :: _) rfl rfl ?_ | refine w_look (l' := []) rfl rfl ?_ | refine w_req rfl ?_ ?_ | refine w_pick rfl (fun b => ?_))
      rfl
    · have k1 : decide (n ≤ 256) = true := by simpa using h1
      simp only [if_pos h1]
      refine agood eok (fn := Try.f116) kr_ de_ rfl kr_ ok_ ok_ ?_
      repeat' (first | refine o_cons ?_ | refine w_ok rfl ?_ | refine w_call rfl (l1Byte l rfl c hc hl) ?_ | refine o_nil ?_ | refine q_then ?_ | refine sq ?_ | refine aw_seq ?_ | refine aw_reg ?_ | refine w_pT rfl ka rfl ?_ | refine w_pF rfl ka rfl ?_ | refine o_y rfl ka ?_ | refine o_nT rfl ka ?_ | refine o_nF rfl ka ?_ | refine o_nU rfl ?_ | refine aw_cT rfl ka ?_ | refine aw_cF rfl ka ?_ | refine o_gT rfl (fun h => ?_) (fun h => ?_) | refine o_gF rfl (fun h => ?_) (fun h => ?_) | refine aw_cond rfl (fun h => ?_) (fun h => ?_) | refine aw_block ?_ | refine aw_skip ?_ | refine aw_ret ?_ | refine q_ret ?_ | refine q_blockN ?_ | refine q_blockR ?_ | refine aw_exit ?_ | refine q_exit ?_ | refine q_blockE ?_ | refine q_blockX de_ ?_ | refine fin_r rfl ?_ | (refine w_req rfl ?_ ?_; · exact rq_) | (refine w_lk rfl ?_; refine ⟨_, lk_D1, ?_⟩) | refine w_look (l' := _ :: _) rfl rfl ?_ | refine w_look (l' := []) rfl rfl ?_ | refine w_req rfl ?_ ?_ | refine w_pick rfl (fun b => ?_))
      rfl
  · have k0 : decide (n ≤ 0) = true := by simpa using h0
    simp only [if_pos h0]
    refine agood eok (fn := Try.f116) kr_ de_ rfl kr_ ok_ ok_ ?_
    repeat' (first | refine o_cons ?_ | refine w_ok rfl ?_ | refine o_nil ?_ | refine q_then ?_ | refine sq ?_ | refine aw_seq ?_ | refine aw_reg ?_ | refine w_pT rfl ka rfl ?_ | refine w_pF rfl ka rfl ?_ | refine o_y rfl ka ?_ | refine o_nT rfl ka ?_ | refine o_nF rfl ka ?_ | refine o_nU rfl ?_ | refine aw_cT rfl ka ?_ | refine aw_cF rfl ka ?_ | refine o_gT rfl (fun h => ?_) (fun h => ?_) | refine o_gF rfl (fun h => ?_) (fun h => ?_) | refine aw_cond rfl (fun h => ?_) (fun h => ?_) | refine aw_block ?_ | refine aw_skip ?_ | refine aw_ret ?_ | refine q_ret ?_ | refine q_blockN ?_ | refine q_blockR ?_ | refine aw_exit ?_ | refine q_exit ?_ | refine q_blockE ?_ | refine q_blockX de_ ?_ | refine fin_r rfl ?_ | (refine w_req rfl ?_ ?_; · exact rq_) | (refine w_lk rfl ?_; refine ⟨_, lk_D1, ?_⟩) | refine w_look (l' := _ :: _) rfl rfl ?_ | refine w_look (l' := []) rfl rfl ?_ | refine w_req rfl ?_ ?_ | refine w_pick rfl (fun b => ?_))
    rfl
attribute [local irreducible] bwC bwX
theorem l1Once (l : List UInt8) {m : Nat} (hm : m = l.length) (c : Cur) (n : Int) (hc : c.ok l) (hl : l.length ≤ 4294967296) : AGood e.P 99 [curPA l m c, .ro (.int .i64 n)] (.bool (bwX l c n == 0)) [curPB (bwC l c n), .keep] := by
  subst hm
  refine agood eok (fn := Try.f99) kr_ de_ rfl kr_ ok_ ok_ ?_
  repeat' (first | refine o_cons ?_ | refine w_ok rfl ?_ | refine w_call rfl (l1Below l rfl c n hc hl) ?_ | refine o_nil ?_ | refine q_then ?_ | refine sq ?_ | refine aw_seq ?_ | refine aw_reg ?_ | refine w_pT rfl ka rfl ?_ | refine w_pF rfl ka rfl ?_ | refine o_y rfl ka ?_ | refine o_nT rfl ka ?_ | refine o_nF rfl ka ?_ | refine o_nU rfl ?_ | refine aw_cT rfl ka ?_ | refine aw_cF rfl ka ?_ | refine o_gT rfl (fun h => ?_) (fun h => ?_) | refine o_gF rfl (fun h => ?_) (fun h => ?_) | refine aw_cond rfl (fun h => ?_) (fun h => ?_) | refine aw_block ?_ | refine aw_skip ?_ | refine aw_ret ?_ | refine q_ret ?_ | refine q_blockN ?_ | refine q_blockR ?_ | refine aw_exit ?_ | refine q_exit ?_ | refine q_blockE ?_ | refine q_blockX de_ ?_ | refine fin_r rfl ?_ | (refine w_req rfl ?_ ?_; · exact rq_) | (refine w_lk rfl ?_; refine ⟨_, lk_D1, ?_⟩) | refine w_look (l' := _ :: _) rfl rfl ?_ | refine w_look (l' := []) rfl rfl ?_ | refine w_req rfl ?_ ?_ | refine w_pick rfl (fun b => ?_))
  rfl
theorem l1Int (l : List UInt8) {m : Nat} (hm : m = l.length) (c : Cur) (L : List Int) {k : Nat} (hk : k = L.length) (h0 : 0 < L.length) (hc : c.ok l) (hl : l.length ≤ 4294967296) : AGood e.P 117 [curPA l m c, .ro (.row 1 k (nT L))] (.int .i64 (L.getD (bwX l c L.length).toNat 0)) [curPB (bwC l c L.length), .keep] := by
  subst hm; subst hk
  have hb := bwX_bd l c (n := (L.length : Int)) (by omega)
  refine agood eok (fn := Try.f117) kr_ de_ rfl kr_ ok_ ok_ ?_
  repeat' (first | refine o_cons ?_ | refine w_ok rfl ?_ | refine w_call rfl (l1Below l rfl c _ hc hl) ?_ | refine o_nil ?_ | refine q_then ?_ | refine sq ?_ | refine aw_seq ?_ | refine aw_reg ?_ | refine w_pT rfl ka rfl ?_ | refine w_pF rfl ka rfl ?_ | refine o_y rfl ka ?_ | refine o_nT rfl ka ?_ | refine o_nF rfl ka ?_ | refine o_nU rfl ?_ | refine aw_cT rfl ka ?_ | refine aw_cF rfl ka ?_ | refine o_gT rfl (fun h => ?_) (fun h => ?_) | refine o_gF rfl (fun h => ?_) (fun h => ?_) | refine aw_cond rfl (fun h => ?_) (fun h => ?_) | refine aw_block ?_ | refine aw_skip ?_ | refine aw_ret ?_ | refine q_ret ?_ | refine q_blockN ?_ | refine q_blockR ?_ | refine aw_exit ?_ | refine q_exit ?_ | refine q_blockE ?_ | refine q_blockX de_ ?_ | refine fin_r rfl ?_ | (refine w_req rfl ?_ ?_; · exact rq_) | (refine w_lk rfl ?_; refine ⟨_, lk_D1, ?_⟩) | refine w_look (l' := _ :: _) rfl rfl ?_ | refine w_look (l' := []) rfl rfl ?_ | refine w_req rfl ?_ ?_ | refine w_pick rfl (fun b => ?_))
  rfl
theorem l1Str (l : List UInt8) {m : Nat} (hm : m = l.length) (c : Cur) (L : List ByteArray) {k : Nat} (hk : k = L.length) (h0 : 0 < L.length) (hc : c.ok l) (hl : l.length ≤ 4294967296) : AGood e.P 118 [curPA l m c, .ro (.row 1 k (sT L))] (.str (L.getD (bwX l c L.length).toNat emp)) [curPB (bwC l c L.length), .keep] := by
  subst hm; subst hk
  have hb := bwX_bd l c (n := (L.length : Int)) (by omega)
  refine agood eok (fn := Try.f118) kr_ de_ rfl kr_ ok_ ok_ ?_
  repeat' (first | refine o_cons ?_ | refine w_ok rfl ?_ | refine w_call rfl (l1Below l rfl c _ hc hl) ?_ | refine o_nil ?_ | refine q_then ?_ | refine sq ?_ | refine aw_seq ?_ | refine aw_reg ?_ | refine w_pT rfl ka rfl ?_ | refine w_pF rfl ka rfl ?_ | refine o_y rfl ka ?_ | refine o_nT rfl ka ?_ | refine o_nF rfl ka ?_ | refine o_nU rfl ?_ | refine aw_cT rfl ka ?_ | refine aw_cF rfl ka ?_ | refine o_gT rfl (fun h => ?_) (fun h => ?_) | refine o_gF rfl (fun h => ?_) (fun h => ?_) | refine aw_cond rfl (fun h => ?_) (fun h => ?_) | refine aw_block ?_ | refine aw_skip ?_ | refine aw_ret ?_ | refine q_ret ?_ | refine q_blockN ?_ | refine q_blockR ?_ | refine aw_exit ?_ | refine q_exit ?_ | refine q_blockE ?_ | refine q_blockX de_ ?_ | refine fin_r rfl ?_ | (refine w_req rfl ?_ ?_; · exact rq_) | (refine w_lk rfl ?_; refine ⟨_, lk_D1, ?_⟩) | refine w_look (l' := _ :: _) rfl rfl ?_ | refine w_look (l' := []) rfl rfl ?_ | refine w_req rfl ?_ ?_ | refine w_pick rfl (fun b => ?_))
  rfl
def btC (l : List UInt8) (c : Cur) : Nat → Cur
  | 0 => c
  | k + 1 => byC l (btC l c k)
def btX (l : List UInt8) (c : Cur) (k : Nat) : List UInt8 := (List.range k).map fun i => ub (byX l (btC l c i))
theorem btC_ok {l : List UInt8} {c : Cur} (h : c.ok l) : ∀ k, (btC l c k).ok l
  | 0 => h
  | k + 1 => byC_ok (btC_ok h k)
@[simp] theorem btX_len (l : List UInt8) (c : Cur) (k : Nat) : (btX l c k).length = k := by simp [btX]
theorem btX_succ (l : List UInt8) (c : Cur) (k : Nat) : btX l c k ++ [ub (byX l (btC l c k))] = btX l c (k + 1) := by
  unfold btX; rw [List.range_succ, List.map_append]; rfl
theorem l1Bytes (l : List UInt8) {m : Nat} (hm : m = l.length) (c : Cur) (n : Int) (hn : n ≤ 1000000) (hc : c.ok l) (hl : l.length ≤ 4294967296) : AGood e.P 119 [curPA l m c, .ro (.int .i64 n)] (.row 1 n.toNat (bT (btX l c n.toNat))) [curPB (btC l c n.toNat), .keep] := by
  subst hm
  refine agood eok (fn := Try.f119) kr_ de_ rfl kr_ ok_ ok_ ?_
  repeat' (first | refine o_cons ?_ | refine w_ok rfl ?_ | refine o_nil ?_ | refine q_then ?_ | refine sq ?_ | refine aw_seq ?_ | refine aw_reg ?_ | refine w_pT rfl ka rfl ?_ | refine w_pF rfl ka rfl ?_ | refine o_y rfl ka ?_ | refine o_nT rfl ka ?_ | refine o_nF rfl ka ?_ | refine o_nU rfl ?_ | refine aw_cT rfl ka ?_ | refine aw_cF rfl ka ?_ | refine o_gT rfl (fun h => ?_) (fun h => ?_) | refine o_gF rfl (fun h => ?_) (fun h => ?_) | refine aw_cond rfl (fun h => ?_) (fun h => ?_) | refine aw_block ?_ | refine aw_skip ?_ | refine aw_ret ?_ | refine q_ret ?_ | refine q_blockN ?_ | refine q_blockR ?_ | refine aw_exit ?_ | refine q_exit ?_ | refine q_blockE ?_ | refine q_blockX de_ ?_ | refine fin_r rfl ?_ | (refine w_req rfl ?_ ?_; · exact rq_) | (refine w_lk rfl ?_; refine ⟨_, lk_D1, ?_⟩) | refine w_look (l' := _ :: _) rfl rfl ?_ | refine w_look (l' := []) rfl rfl ?_ | refine w_req rfl ?_ ?_ | refine w_pick rfl (fun b => ?_))
  refine loop1 (fun k : Nat => ⟨tbl [(0, .ptr 0 0 0 0), (1, .int .i64 n), (5, .own 8000 0), (6, .int .i64 k)], mbl [(0, .box 0 124 [.ro (some 0) 1 l.length (bT l), .int .i64 (btC l c k).i, .int .i64 (btC l c k).h]), (8000, .row 0 0 1 k (bT (btX l c k)))], [.ptr 0 0 0 0, .int .i64 n]⟩) (fun k => (k : Int) ≤ max n 0) (fun k => n.toNat - k) 0 (by omega) ?_ ?_
  · (refine le_of [(0, 0), (8000, 8000)] ?_; repeat' (first | exact trivial | refine an ?_ ?_ | with_reducible rfl | exact bt rfl | exact Or.inl rfl | exact Or.inr rfl | exact Eq.refl _))
  intro k hk
  repeat' (first | refine o_cons ?_ | refine w_ok rfl ?_ | refine w_call rfl (l1Byte l rfl _ (btC_ok hc k) hl) ?_ | refine o_nil ?_ | refine q_then ?_ | refine sq ?_ | refine aw_seq ?_ | refine aw_reg ?_ | refine w_pT rfl ka rfl ?_ | refine w_pF rfl ka rfl ?_ | refine o_y rfl ka ?_ | refine o_nT rfl ka ?_ | refine o_nF rfl ka ?_ | refine o_nU rfl ?_ | refine aw_cT rfl ka ?_ | refine aw_cF rfl ka ?_ | refine o_gT rfl (fun h => ?_) (fun h => ?_) | refine o_gF rfl (fun h => ?_) (fun h => ?_) | refine aw_cond rfl (fun h => ?_) (fun h => ?_) | refine aw_block ?_ | refine aw_skip ?_ | refine aw_ret ?_ | refine q_ret ?_ | refine q_blockN ?_ | refine q_blockR ?_ | refine aw_exit ?_ | refine q_exit ?_ | refine q_blockE ?_ | refine q_blockX de_ ?_ | refine fin_r rfl ?_ | (refine w_req rfl ?_ ?_; · exact rq_) | (refine w_lk rfl ?_; refine ⟨_, lk_D1, ?_⟩) | refine w_look (l' := _ :: _) rfl rfl ?_ | refine w_look (l' := []) rfl rfl ?_ | refine w_req rfl ?_ ?_ | refine w_pick rfl (fun b => ?_))
  · have hkn : (k : Int) < n := by (exact side_)
    refine ⟨k + 1, ⟨by omega, by omega⟩, ?_⟩
    (refine le_of [(0, 0), (8000, 8000)] ?_; repeat' (first | exact trivial | refine an ?_ ?_ | with_reducible rfl | exact bt rfl | exact Or.inl rfl | exact Or.inr rfl | exact Eq.refl _))
    all_goals first | exact congrArg bT (btX_succ l c k) | (first | omega | (simp; done) | (rw [wrap64] <;> omega) | (simp; omega))
  · have : k = n.toNat := by (exact side_)
    subst this
    rfl
theorem l1Size (l : List UInt8) {m : Nat} (hm : m = l.length) (most : Int) (hl : l.length ≤ 4294967296) : ∃ r, (r ≤ most) ∧ (0 ≤ most → 0 ≤ r) ∧ AGood e.P 98 [.ro (.row 1 m (bT l)), .ro (.int .i64 most)] (.int .i64 r) [.keep, .keep] := by
  subst hm
  have hd : (l.length : Int).tdiv 12 = ((l.length / 12 : Nat) : Int) := by rw [Int.tdiv_eq_ediv_of_nonneg (by omega)]; omega
  have hw : IntKind.i64.wrap (3 + IntKind.i64.wrap ((l.length : Int).tdiv 12)) = 3 + ((l.length / 12 : Nat) : Int) := by rw [hd, wrap64 (n := ((l.length / 12 : Nat) : Int)) (by omega) (by omega), wrap64 (by omega) (by omega)]
  refine ⟨if 3 + ((l.length / 12 : Nat) : Int) > most then most else 3 + ((l.length / 12 : Nat) : Int), by split <;> omega, by split <;> omega, ?_⟩
  refine agood eok (fn := Try.f98) kr_ de_ rfl kr_ ok_ ok_ ?_
  repeat' (first | refine o_cons ?_ | refine w_ok rfl ?_ | refine o_nil ?_ | refine q_then ?_ | refine sq ?_ | refine aw_seq ?_ | refine aw_reg ?_ | refine w_pT rfl ka rfl ?_ | refine w_pF rfl ka rfl ?_ | refine o_y rfl ka ?_ | refine o_nT rfl ka ?_ | refine o_nF rfl ka ?_ | refine o_nU rfl ?_ | refine aw_cT rfl ka ?_ | refine aw_cF rfl ka ?_ | refine o_gT rfl (fun h => ?_) (fun h => ?_) | refine o_gF rfl (fun h => ?_) (fun h => ?_) | refine aw_cond rfl (fun h => ?_) (fun h => ?_) | refine aw_block ?_ | refine aw_skip ?_ | refine aw_ret ?_ | refine q_ret ?_ | refine q_blockN ?_ | refine q_blockR ?_ | refine aw_exit ?_ | refine q_exit ?_ | refine q_blockE ?_ | refine q_blockX de_ ?_ | refine fin_r rfl ?_ | (refine w_req rfl ?_ ?_; · exact rq_) | (refine w_lk rfl ?_; refine ⟨_, lk_D1, ?_⟩) | refine w_look (l' := _ :: _) rfl rfl ?_ | refine w_look (l' := []) rfl rfl ?_ | refine w_req rfl ?_ ?_ | refine w_pick rfl (fun b => ?_))
  · rw [hw] at h; rw [if_pos (by simpa using h)]
  · rw [hw] at h; rw [if_neg (by simpa using h), hw]
theorem big (l : List UInt8) {m : Nat} (hm : m = l.length) : AGood e.P 15 [.ro (.row 1 m (bT l))] (.bool (decide ((l.length : Int) > 1048576))) [.keep] := by
  subst hm
  refine agood eok (fn := Try.f15) kr_ de_ rfl kr_ ok_ ok_ ?_
  repeat' (first | refine o_cons ?_ | refine w_ok rfl ?_ | refine o_nil ?_ | refine q_then ?_ | refine sq ?_ | refine aw_seq ?_ | refine aw_reg ?_ | refine w_pT rfl ka rfl ?_ | refine w_pF rfl ka rfl ?_ | refine o_y rfl ka ?_ | refine o_nT rfl ka ?_ | refine o_nF rfl ka ?_ | refine o_nU rfl ?_ | refine aw_cT rfl ka ?_ | refine aw_cF rfl ka ?_ | refine o_gT rfl (fun h => ?_) (fun h => ?_) | refine o_gF rfl (fun h => ?_) (fun h => ?_) | refine aw_cond rfl (fun h => ?_) (fun h => ?_) | refine aw_block ?_ | refine aw_skip ?_ | refine aw_ret ?_ | refine q_ret ?_ | refine q_blockN ?_ | refine q_blockR ?_ | refine aw_exit ?_ | refine q_exit ?_ | refine q_blockE ?_ | refine q_blockX de_ ?_ | refine fin_r rfl ?_ | (refine w_req rfl ?_ ?_; · exact rq_) | (refine w_lk rfl ?_; refine ⟨_, lk_D1, ?_⟩) | refine w_look (l' := _ :: _) rfl rfl ?_ | refine w_look (l' := []) rfl rfl ?_ | refine w_req rfl ?_ ?_ | refine w_pick rfl (fun b => ?_))
  rfl
def newStep (h : Int) (b : UInt8) : Int := andI (IntKind.i64.wrap (IntKind.i64.wrap (IntKind.i64.wrap (h * 137) + IntKind.i64.wrap (b.toNat : Int)) + 11)) 1073741823
def newH (l : List UInt8) : Int := (l.take 4000).foldl newStep (IntKind.i64.wrap (369369 + (l.length : Int)))
theorem l1New (l : List UInt8) {m : Nat} (hm : m = l.length) (hl : l.length ≤ 4294967296) : AGood e.P 66 [.ro (.row 1 m (bT l))] (.box 124 [.tag 0, .int .i64 0, .int .i64 (newH l)]) [.keep] := by
  subst hm
  refine agood eok (fn := Try.f66) kr_ de_ rfl kr_ ok_ ok_ ?_
  repeat' (first | refine o_cons ?_ | refine w_ok rfl ?_ | refine o_nil ?_ | refine q_then ?_ | refine sq ?_ | refine aw_seq ?_ | refine aw_reg ?_ | refine w_pT rfl ka rfl ?_ | refine w_pF rfl ka rfl ?_ | refine o_y rfl ka ?_ | refine o_nT rfl ka ?_ | refine o_nF rfl ka ?_ | refine o_nU rfl ?_ | refine aw_cT rfl ka ?_ | refine aw_cF rfl ka ?_ | refine o_gT rfl (fun h => ?_) (fun h => ?_) | refine o_gF rfl (fun h => ?_) (fun h => ?_) | refine aw_cond rfl (fun h => ?_) (fun h => ?_) | refine aw_block ?_ | refine aw_skip ?_ | refine aw_ret ?_ | refine q_ret ?_ | refine q_blockN ?_ | refine q_blockR ?_ | refine aw_exit ?_ | refine q_exit ?_ | refine q_blockE ?_ | refine q_blockX de_ ?_ | refine fin_r rfl ?_ | (refine w_req rfl ?_ ?_; · exact rq_) | (refine w_lk rfl ?_; refine ⟨_, lk_D1, ?_⟩) | refine w_look (l' := _ :: _) rfl rfl ?_ | refine w_look (l' := []) rfl rfl ?_ | refine w_req rfl ?_ ?_ | refine w_pick rfl (fun b => ?_))
  refine loop1 (fun i : Nat => ⟨tbl [(0, .ro (some 0) 1 l.length (bT l)), (3, .int .i64 ((l.take i).foldl newStep (IntKind.i64.wrap (369369 + (l.length : Int))))), (4, .int .i64 i)], mbl [], [.ro (some 0) 1 l.length (bT l)]⟩) (fun i => i ≤ l.length ∧ i ≤ 4000) (fun i => l.length - i) 0 ⟨Nat.zero_le _, by decide⟩ ?_ ?_
  · (refine le_of [] ?_; repeat' (first | exact trivial | refine an ?_ ?_ | with_reducible rfl | exact bt rfl | exact Or.inl rfl | exact Or.inr rfl | exact Eq.refl _))
  rintro i ⟨hi, hi2⟩
  repeat' (first | refine o_cons ?_ | refine w_ok rfl ?_ | refine o_nil ?_ | refine q_then ?_ | refine sq ?_ | refine aw_seq ?_ | refine aw_reg ?_ | refine w_pT rfl ka rfl ?_ | refine w_pF rfl ka rfl ?_ | refine o_y rfl ka ?_ | refine o_nT rfl ka ?_ | refine o_nF rfl ka ?_ | refine o_nU rfl ?_ | refine aw_cT rfl ka ?_ | refine aw_cF rfl ka ?_ | refine o_gT rfl (fun h => ?_) (fun h => ?_) | refine o_gF rfl (fun h => ?_) (fun h => ?_) | refine aw_cond rfl (fun h => ?_) (fun h => ?_) | refine aw_block ?_ | refine aw_skip ?_ | refine aw_ret ?_ | refine q_ret ?_ | refine q_blockN ?_ | refine q_blockR ?_ | refine aw_exit ?_ | refine q_exit ?_ | refine q_blockE ?_ | refine q_blockX de_ ?_ | refine fin_r rfl ?_ | (refine w_req rfl ?_ ?_; · exact rq_) | (refine w_lk rfl ?_; refine ⟨_, lk_D1, ?_⟩) | refine w_look (l' := _ :: _) rfl rfl ?_ | refine w_look (l' := []) rfl rfl ?_ | refine w_req rfl ?_ ?_ | refine w_pick rfl (fun b => ?_))
  · have hil : i < l.length := by (exact side_)
    have hi4 : i < 4000 := by (exact side_)
    refine ⟨i + 1, ⟨⟨by omega, by omega⟩, by omega⟩, ?_⟩
    (refine le_of [] ?_; repeat' (first | exact trivial | refine an ?_ ?_ | with_reducible rfl | exact bt rfl | exact Or.inl rfl | exact Or.inr rfl | exact Eq.refl _))
    · rw [take_succ_getD (z := (0 : UInt8)) hil, List.foldl_append]; rfl
    · first | omega | (simp; done) | (rw [wrap64] <;> omega) | (simp; omega)
  · have hi4 : i = 4000 := by (exact side_)
    subst hi4
    rfl
  · have hil : i = l.length := by (exact side_)
    subst hil
    unfold newH
    rw [List.take_length, List.take_of_length_le (by omega : l.length ≤ 4000)]
end Go.Proofs.Ytbkpmljdmlhmhaa
namespace Go.Proofs.Ytbkpmljdmlhmhaa
open Go Go.AM Ty
set_option maxRecDepth 100000
set_option maxHeartbeats 4000000
set_option linter.unusedVariables false
set_option linter.unusedSimpArgs false
attribute [local irreducible] aw aops aopsD wpo wpoL condW guardW thenQ blockQ finQ Le AGood
attribute [local irreducible] bwC bwX btC btX
/-- a drawn record -/
def rdC1 (l : List UInt8) (c : Cur) : Cur := bwC l c 3
def rdC2 (l : List UInt8) (c : Cur) : Cur := bwC l (rdC1 l c) 5
def rdC3 (l : List UInt8) (c : Cur) : Cur := bwC l (rdC2 l c) 3
def rdK (l : List UInt8) (c : Cur) : Int := ([1, 2, 2, 3, 4] : List Int).getD (bwX l (rdC1 l c) 5).toNat 0
def rdS (l : List UInt8) (c : Cur) : ByteArray := ([⟨#[97]⟩, ⟨#[98]⟩, ⟨#[117, 112, 49]⟩] : List ByteArray).getD (bwX l (rdC2 l c) 3).toNat emp
def rdM (l : List UInt8) (c : Cur) : Int := ([1, 3, 24] : List Int).getD (bwX l (bwC l (rdC3 l c) 3) 3).toNat 0
def rdR (l : List UInt8) (c : Cur) (seq : Int) : Rc :=
  ⟨bwX l c 3, seq, rdK l c, rdS l c, if rdK l c = 1 then ([0, 5, 30] : List Int).getD (bwX l (rdC3 l c) 3).toNat 0 else if rdK l c = 2 then ([0, 3, 24] : List Int).getD (bwX l (rdC3 l c) 3).toNat 0 else 0,
    if rdK l c = 2 then btX l (bwC l (bwC l (rdC3 l c) 3) 3) (rdM l c).toNat else []⟩
def rdC (l : List UInt8) (c : Cur) : Cur := if rdK l c = 1 then bwC l (rdC3 l c) 3 else if rdK l c = 2 then btC l (bwC l (bwC l (rdC3 l c) 3) 3) (rdM l c).toNat else rdC3 l c
theorem getD3 {a b c : Int} {j : Nat} {P : Int → Prop} (h0 : P 0) (ha : P a) (hb : P b) (hc : P c) : P (([a, b, c] : List Int).getD j 0) := by
  match j with
  | 0 => exact ha
  | 1 => exact hb
  | 2 => exact hc
  | j + 3 => exact h0
theorem getD5 {a b c d f : Int} {j : Nat} {P : Int → Prop} (h0 : P 0) (ha : P a) (hb : P b) (hc : P c) (hd : P d) (hf : P f) : P (([a, b, c, d, f] : List Int).getD j 0) := by
  match j with
  | 0 => exact ha
  | 1 => exact hb
  | 2 => exact hc
  | 3 => exact hd
  | 4 => exact hf
  | j + 5 => exact h0
theorem rdM_bd (l : List UInt8) (c : Cur) : 0 ≤ rdM l c ∧ rdM l c ≤ 24 := by
  unfold rdM
  exact getD3 (P := fun x => 0 ≤ x ∧ x ≤ 24) (by decide) (by decide) (by decide) (by decide)
theorem rdC3_ok {l : List UInt8} {c : Cur} (h : c.ok l) : (rdC3 l c).ok l := bwC_ok _ (bwC_ok _ (bwC_ok _ h))
theorem rdC_ok {l : List UInt8} {c : Cur} (h : c.ok l) : (rdC l c).ok l := by
  unfold rdC
  split
  · exact bwC_ok _ (rdC3_ok h)
  · split
    · exact btC_ok (bwC_ok _ (bwC_ok _ (rdC3_ok h))) _
    · exact rdC3_ok h
theorem rdS_size (l : List UInt8) (c : Cur) : (rdS l c).size ≤ 3 := by
  unfold rdS
  match (bwX l (rdC2 l c) 3).toNat with
  | 0 => decide
  | 1 => decide
  | 2 => decide
  | j + 3 => exact (by decide : (emp : ByteArray).size ≤ 3)
theorem rdR_d (l : List UInt8) (c : Cur) (seq : Int) : (rdR l c seq).d.length ≤ 24 := by
  unfold rdR
  simp only
  split
  · rw [btX_len]; have := rdM_bd l c; omega
  · simp
theorem l13Rec (l : List UInt8) {m : Nat} (hm : m = l.length) (c : Cur) (seq : Int) (hc : c.ok l) (hl : l.length ≤ 4294967296) : AGood e.P 100 [curPA l m c, .ro (.int .i64 seq)] (rdR l c seq).tr [curPB (rdC l c), .keep] := by
  subst hm
  have c1 := l1Below l rfl c 3 hc hl
  have k1 : (rdC1 l c).ok l := bwC_ok _ hc
  have c2 := l1Int l rfl (rdC1 l c) [1, 2, 2, 3, 4] (k := 5) rfl (by decide) k1 hl
  have k2 : (rdC2 l c).ok l := bwC_ok _ k1
  have c3 := l1Str l rfl (rdC2 l c) [⟨#[97]⟩, ⟨#[98]⟩, ⟨#[117, 112, 49]⟩] (k := 3) rfl (by decide) k2 hl
  have k3 : (rdC3 l c).ok l := bwC_ok _ k2
  have hm := rdM_bd l c
  by_cases h1 : rdK l c = 1
  · have e : rdR l c seq = ⟨bwX l c 3, seq, rdK l c, rdS l c, ([0, 5, 30] : List Int).getD (bwX l (rdC3 l c) 3).toNat 0, []⟩ := by unfold rdR; rw [if_pos h1, if_neg (by omega)]
    have ec : rdC l c = bwC l (rdC3 l c) 3 := by unfold rdC; rw [if_pos h1]
    rw [e, ec]
    have q1 : (rdK l c == 1) = true := by simpa using h1
    have c4 := l1Int l rfl (rdC3 l c) [0, 5, 30] (k := 3) rfl (by decide) k3 hl
    refine agood eok (fn := Try.f100) kr_ de_ rfl kr_ ok_ ok_ ?_
    repeat' (first | refine o_cons ?_ | refine w_ok rfl ?_ | refine w_call rfl (c1) ?_ | refine w_call rfl (c2) ?_ | refine w_call rfl (c3) ?_ | refine w_call rfl (c4) ?_ | refine o_nil ?_ | refine q_then ?_ | refine sq ?_ | refine aw_seq ?_ | refine aw_reg ?_ | refine w_pT rfl ka rfl ?_ | refine w_pF rfl ka rfl ?_ | refine o_y rfl ka ?_ | refine o_nT rfl ka ?_ | refine o_nF rfl ka ?_ | refine o_nU rfl ?_ | refine aw_cT rfl ka ?_ | refine aw_cF rfl ka ?_ | refine o_gT rfl (fun h => ?_) (fun h => ?_) | refine o_gF rfl (fun h => ?_) (fun h => ?_) | refine aw_cond rfl (fun h => ?_) (fun h => ?_) | refine aw_block ?_ | refine aw_skip ?_ | refine aw_ret ?_ | refine q_ret ?_ | refine q_blockN ?_ | refine q_blockR ?_ | refine aw_exit ?_ | refine q_exit ?_ | refine q_blockE ?_ | refine q_blockX de_ ?_ | refine fin_r rfl ?_ | (refine w_req rfl ?_ ?_; · exact rq_) | (refine w_lk rfl ?_; refine ⟨_, lk_, ?_⟩) | refine w_look (l' := _ :: _) rfl rfl ?_ | refine w_look (l' := []) rfl rfl ?_ | refine w_req rfl ?_ ?_ | refine w_pick rfl (fun b => ?_))
    rfl
  · have q1 : (rdK l c == 1) = false := by simpa using h1
    by_cases h2 : rdK l c = 2
    · have e : rdR l c seq = ⟨bwX l c 3, seq, rdK l c, rdS l c, ([0, 3, 24] : List Int).getD (bwX l (rdC3 l c) 3).toNat 0, btX l (bwC l (bwC l (rdC3 l c) 3) 3) (rdM l c).toNat⟩ := by unfold rdR; rw [if_neg h1, if_pos h2, if_pos h2]
      have ec : rdC l c = btC l (bwC l (bwC l (rdC3 l c) 3) 3) (rdM l c).toNat := by unfold rdC; rw [if_neg h1, if_pos h2]
      rw [e, ec]
      have q2 : (rdK l c == 2) = true := by simpa using h2
      have c4 := l1Int l rfl (rdC3 l c) [0, 3, 24] (k := 3) rfl (by decide) k3 hl
      have k4 : (bwC l (rdC3 l c) 3).ok l := bwC_ok _ k3
      have c5 := l1Int l rfl (bwC l (rdC3 l c) 3) [1, 3, 24] (k := 3) rfl (by decide) k4 hl
      have c6 := l1Bytes l rfl (bwC l (bwC l (rdC3 l c) 3) 3) (rdM l c) (by omega) (bwC_ok _ k4) hl
      refine agood eok (fn := Try.f100) kr_ de_ rfl kr_ ok_ ok_ ?_
      repeat' (first | refine o_cons ?_ | refine w_ok rfl ?_ | refine w_call rfl (c1) ?_ | refine w_call rfl (c2) ?_ | refine w_call rfl (c3) ?_ | refine w_call rfl (c4) ?_ | refine w_call rfl (c5) ?_ | refine w_call rfl (c6) ?_ | refine o_nil ?_ | refine q_then ?_ | refine sq ?_ | refine aw_seq ?_ | refine aw_reg ?_ | refine w_pT rfl ka rfl ?_ | refine w_pF rfl ka rfl ?_ | refine o_y rfl ka ?_ | refine o_nT rfl ka ?_ | refine o_nF rfl ka ?_ | refine o_nU rfl ?_ | refine aw_cT rfl ka ?_ | refine aw_cF rfl ka ?_ | refine o_gT rfl (fun h => ?_) (fun h => ?_) | refine o_gF rfl (fun h => ?_) (fun h => ?_) | refine aw_cond rfl (fun h => ?_) (fun h => ?_) | refine aw_block ?_ | refine aw_skip ?_ | refine aw_ret ?_ | refine q_ret ?_ | refine q_blockN ?_ | refine q_blockR ?_ | refine aw_exit ?_ | refine q_exit ?_ | refine q_blockE ?_ | refine q_blockX de_ ?_ | refine fin_r rfl ?_ | (refine w_req rfl ?_ ?_; · exact rq_) | (refine w_lk rfl ?_; refine ⟨_, lk_, ?_⟩) | refine w_look (l' := _ :: _) rfl rfl ?_ | refine w_look (l' := []) rfl rfl ?_ | refine w_req rfl ?_ ?_ | refine w_pick rfl (fun b => ?_))
      refine Eq.trans ?_ (congrArg (fun n => (Tr.agg [.int .i64 (bwX l c 3), .int .i64 seq, .int .i64 (rdK l c), .str (rdS l c), .int .i64 (([0, 3, 24] : List Int).getD (bwX l (rdC3 l c) 3).toNat 0), .row 1 n (bT (btX l (bwC l (bwC l (rdC3 l c) 3) 3) (rdM l c).toNat))], [curPB (btC l (bwC l (bwC l (rdC3 l c) 3) 3) (rdM l c).toNat), PB.keep])) (btX_len l (bwC l (bwC l (rdC3 l c) 3) 3) (rdM l c).toNat).symm)
      rfl
    · have e : rdR l c seq = ⟨bwX l c 3, seq, rdK l c, rdS l c, 0, []⟩ := by unfold rdR; rw [if_neg h1, if_neg h2, if_neg h2]
      have ec : rdC l c = rdC3 l c := by unfold rdC; rw [if_neg h1, if_neg h2]
      rw [e, ec]
      have q2 : (rdK l c == 2) = false := by simpa using h2
      refine agood eok (fn := Try.f100) kr_ de_ rfl kr_ ok_ ok_ ?_
      repeat' (first | refine o_cons ?_ | refine w_ok rfl ?_ | refine w_call rfl (c1) ?_ | refine w_call rfl (c2) ?_ | refine w_call rfl (c3) ?_ | refine o_nil ?_ | refine q_then ?_ | refine sq ?_ | refine aw_seq ?_ | refine aw_reg ?_ | refine w_pT rfl ka rfl ?_ | refine w_pF rfl ka rfl ?_ | refine o_y rfl ka ?_ | refine o_nT rfl ka ?_ | refine o_nF rfl ka ?_ | refine o_nU rfl ?_ | refine aw_cT rfl ka ?_ | refine aw_cF rfl ka ?_ | refine o_gT rfl (fun h => ?_) (fun h => ?_) | refine o_gF rfl (fun h => ?_) (fun h => ?_) | refine aw_cond rfl (fun h => ?_) (fun h => ?_) | refine aw_block ?_ | refine aw_skip ?_ | refine aw_ret ?_ | refine q_ret ?_ | refine q_blockN ?_ | refine q_blockR ?_ | refine aw_exit ?_ | refine q_exit ?_ | refine q_blockE ?_ | refine q_blockX de_ ?_ | refine fin_r rfl ?_ | (refine w_req rfl ?_ ?_; · exact rq_) | (refine w_lk rfl ?_; refine ⟨_, lk_, ?_⟩) | refine w_look (l' := _ :: _) rfl rfl ?_ | refine w_look (l' := []) rfl rfl ?_ | refine w_req rfl ?_ ?_ | refine w_pick rfl (fun b => ?_))
      rfl
end Go.Proofs.Ytbkpmljdmlhmhaa
namespace Go.Proofs.Ytbkpmljdmlhmhaa
open Go Go.AM Ty
set_option maxRecDepth 100000
set_option maxHeartbeats 4000000
set_option linter.unusedVariables false
set_option linter.unusedSimpArgs false
attribute [local irreducible] aw aops aopsD wpo wpoL condW guardW thenQ blockQ finQ Le AGood
attribute [local irreducible] bwC bwX btC btX rdC rdR
theorem l13Any (l : List UInt8) {m : Nat} (hm : m = l.length) (c : Cur) (hc : c.ok l) (hl : l.length ≤ 4294967296) : ∃ (r : Rc) (c' : Cur), (r.s.size ≤ 1000 ∧ r.d.length ≤ 1000) ∧ AGood e.P 67 [curPA l m c] r.tr [curPB c'] := by
  subst hm
  have k1 : (bwC l c 4).ok l := bwC_ok _ hc
  have c1 := l1Below l rfl c 4 hc hl
  have c2 := l13Rec l rfl (bwC l c 4) (bwX l c 4) k1 hl
  have b1 := rdR_d l (bwC l c 4) (bwX l c 4)
  have b2 : (rdR l (bwC l c 4) (bwX l c 4)).s.size ≤ 3 := by unfold rdR; exact rdS_size _ _
  have k2 : (rdC l (bwC l c 4)).ok l := rdC_ok k1
  generalize rdR l (bwC l c 4) (bwX l c 4) = r at *
  generalize rdC l (bwC l c 4) = c3 at *
  have c3' := l1Below l rfl c3 14 k2 hl
  have k3 : (bwC l c3 14).ok l := bwC_ok _ k2
  generalize bwC l c3 14 = c4 at *
  generalize bwX l c3 14 = k at *
  have dn : ∀ x : Int, k ≠ x → (k == x) = false := fun x h => by simpa using h
  by_cases h0 : k = 0
  · subst h0
    have c5 := l1Int l rfl c4 [-1, 10000, 10001] (k := 3) rfl (by decide) k3 hl
    refine ⟨⟨([-1, 10000, 10001] : List Int).getD (bwX l c4 3).toNat 0, r.b, r.k, r.s, r.n, r.d⟩, bwC l c4 3, ⟨by simp only; omega, by simp only; omega⟩, ?_⟩
    rotate_left
    · refine agood eok (fn := Try.f67) kr_ de_ rfl kr_ ok_ ok_ ?_
      repeat' (first | refine o_cons ?_ | refine w_ok rfl ?_ | refine w_call rfl (c1) ?_ | refine w_call rfl (c2) ?_ | refine w_call rfl (c3') ?_ | refine w_call rfl (c5) ?_ | refine o_nil ?_ | refine q_then ?_ | refine sq ?_ | refine aw_seq ?_ | refine aw_reg ?_ | refine w_pT rfl ka rfl ?_ | refine w_pF rfl ka rfl ?_ | refine o_y rfl ka ?_ | refine o_nT rfl ka ?_ | refine o_nF rfl ka ?_ | refine o_nU rfl ?_ | refine aw_cT rfl ka ?_ | refine aw_cF rfl ka ?_ | refine o_gT rfl (fun h => ?_) (fun h => ?_) | refine o_gF rfl (fun h => ?_) (fun h => ?_) | refine aw_cond rfl (fun h => ?_) (fun h => ?_) | refine aw_block ?_ | refine aw_skip ?_ | refine aw_ret ?_ | refine q_ret ?_ | refine q_blockN ?_ | refine q_blockR ?_ | refine aw_exit ?_ | refine q_exit ?_ | refine q_blockE ?_ | refine q_blockX de_ ?_ | refine fin_r rfl ?_ | (refine w_req rfl ?_ ?_; · exact rq_) | (refine w_lk rfl ?_; refine ⟨_, lk_, ?_⟩) | refine w_look (l' := _ :: _) rfl rfl ?_ | refine w_look (l' := []) rfl rfl ?_ | refine w_req rfl ?_ ?_ | refine w_pick rfl (fun b => ?_))
      rfl
  by_cases h1 : k = 1
  · subst h1
    have c5 := l1Int l rfl c4 [-1, 199, 200] (k := 3) rfl (by decide) k3 hl
    refine ⟨⟨r.a, ([-1, 199, 200] : List Int).getD (bwX l c4 3).toNat 0, r.k, r.s, r.n, r.d⟩, bwC l c4 3, ⟨by simp only; omega, by simp only; omega⟩, ?_⟩
    rotate_left
    · refine agood eok (fn := Try.f67) kr_ de_ rfl kr_ ok_ ok_ ?_
      repeat' (first | refine o_cons ?_ | refine w_ok rfl ?_ | refine w_call rfl (c1) ?_ | refine w_call rfl (c2) ?_ | refine w_call rfl (c3') ?_ | refine w_call rfl (c5) ?_ | refine o_nil ?_ | refine q_then ?_ | refine sq ?_ | refine aw_seq ?_ | refine aw_reg ?_ | refine w_pT rfl ka rfl ?_ | refine w_pF rfl ka rfl ?_ | refine o_y rfl ka ?_ | refine o_nT rfl ka ?_ | refine o_nF rfl ka ?_ | refine o_nU rfl ?_ | refine aw_cT rfl ka ?_ | refine aw_cF rfl ka ?_ | refine o_gT rfl (fun h => ?_) (fun h => ?_) | refine o_gF rfl (fun h => ?_) (fun h => ?_) | refine aw_cond rfl (fun h => ?_) (fun h => ?_) | refine aw_block ?_ | refine aw_skip ?_ | refine aw_ret ?_ | refine q_ret ?_ | refine q_blockN ?_ | refine q_blockR ?_ | refine aw_exit ?_ | refine q_exit ?_ | refine q_blockE ?_ | refine q_blockX de_ ?_ | refine fin_r rfl ?_ | (refine w_req rfl ?_ ?_; · exact rq_) | (refine w_lk rfl ?_; refine ⟨_, lk_, ?_⟩) | refine w_look (l' := _ :: _) rfl rfl ?_ | refine w_look (l' := []) rfl rfl ?_ | refine w_req rfl ?_ ?_ | refine w_pick rfl (fun b => ?_))
      rfl
  by_cases h2 : k = 2
  · subst h2
    have c5 := l1Str l rfl c4 [⟨#[]⟩, ⟨#[65]⟩, ⟨#[101, 105, 103, 104, 116, 108, 101, 116]⟩, ⟨#[110, 105, 110, 101, 98, 121, 116, 101, 115]⟩] (k := 4) rfl (by decide) k3 hl
    refine ⟨⟨r.a, r.b, r.k, ([⟨#[]⟩, ⟨#[65]⟩, ⟨#[101, 105, 103, 104, 116, 108, 101, 116]⟩, ⟨#[110, 105, 110, 101, 98, 121, 116, 101, 115]⟩] : List ByteArray).getD (bwX l c4 4).toNat emp, r.n, r.d⟩, bwC l c4 4, ⟨?_, by simp only; omega⟩, ?_⟩
    rotate_left
    · refine agood eok (fn := Try.f67) kr_ de_ rfl kr_ ok_ ok_ ?_
      repeat' (first | refine o_cons ?_ | refine w_ok rfl ?_ | refine w_call rfl (c1) ?_ | refine w_call rfl (c2) ?_ | refine w_call rfl (c3') ?_ | refine w_call rfl (c5) ?_ | refine o_nil ?_ | refine q_then ?_ | refine sq ?_ | refine aw_seq ?_ | refine aw_reg ?_ | refine w_pT rfl ka rfl ?_ | refine w_pF rfl ka rfl ?_ | refine o_y rfl ka ?_ | refine o_nT rfl ka ?_ | refine o_nF rfl ka ?_ | refine o_nU rfl ?_ | refine aw_cT rfl ka ?_ | refine aw_cF rfl ka ?_ | refine o_gT rfl (fun h => ?_) (fun h => ?_) | refine o_gF rfl (fun h => ?_) (fun h => ?_) | refine aw_cond rfl (fun h => ?_) (fun h => ?_) | refine aw_block ?_ | refine aw_skip ?_ | refine aw_ret ?_ | refine q_ret ?_ | refine q_blockN ?_ | refine q_blockR ?_ | refine aw_exit ?_ | refine q_exit ?_ | refine q_blockE ?_ | refine q_blockX de_ ?_ | refine fin_r rfl ?_ | (refine w_req rfl ?_ ?_; · exact rq_) | (refine w_lk rfl ?_; refine ⟨_, lk_, ?_⟩) | refine w_look (l' := _ :: _) rfl rfl ?_ | refine w_look (l' := []) rfl rfl ?_ | refine w_req rfl ?_ ?_ | refine w_pick rfl (fun b => ?_))
      rfl
    simp only
    generalize (bwX l c4 4).toNat = j
    match j with
    | 0 => decide
    | 1 => decide
    | 2 => decide
    | 3 => decide
    | j + 4 => exact (by decide : (emp : ByteArray).size ≤ 1000)
  by_cases h3 : k = 3
  · subst h3
    have c5 := l1Int l rfl c4 [-1, 1000000000, 1000000001] (k := 3) rfl (by decide) k3 hl
    refine ⟨⟨r.a, r.b, r.k, r.s, ([-1, 1000000000, 1000000001] : List Int).getD (bwX l c4 3).toNat 0, r.d⟩, bwC l c4 3, ⟨by simp only; omega, by simp only; omega⟩, ?_⟩
    rotate_left
    · refine agood eok (fn := Try.f67) kr_ de_ rfl kr_ ok_ ok_ ?_
      repeat' (first | refine o_cons ?_ | refine w_ok rfl ?_ | refine w_call rfl (c1) ?_ | refine w_call rfl (c2) ?_ | refine w_call rfl (c3') ?_ | refine w_call rfl (c5) ?_ | refine o_nil ?_ | refine q_then ?_ | refine sq ?_ | refine aw_seq ?_ | refine aw_reg ?_ | refine w_pT rfl ka rfl ?_ | refine w_pF rfl ka rfl ?_ | refine o_y rfl ka ?_ | refine o_nT rfl ka ?_ | refine o_nF rfl ka ?_ | refine o_nU rfl ?_ | refine aw_cT rfl ka ?_ | refine aw_cF rfl ka ?_ | refine o_gT rfl (fun h => ?_) (fun h => ?_) | refine o_gF rfl (fun h => ?_) (fun h => ?_) | refine aw_cond rfl (fun h => ?_) (fun h => ?_) | refine aw_block ?_ | refine aw_skip ?_ | refine aw_ret ?_ | refine q_ret ?_ | refine q_blockN ?_ | refine q_blockR ?_ | refine aw_exit ?_ | refine q_exit ?_ | refine q_blockE ?_ | refine q_blockX de_ ?_ | refine fin_r rfl ?_ | (refine w_req rfl ?_ ?_; · exact rq_) | (refine w_lk rfl ?_; refine ⟨_, lk_, ?_⟩) | refine w_look (l' := _ :: _) rfl rfl ?_ | refine w_look (l' := []) rfl rfl ?_ | refine w_req rfl ?_ ?_ | refine w_pick rfl (fun b => ?_))
      rfl
  by_cases h4 : k = 4
  · subst h4
    have c5 := l1Int l rfl c4 [0, 24, 25] (k := 3) rfl (by decide) k3 hl
    have hb : 0 ≤ ([0, 24, 25] : List Int).getD (bwX l c4 3).toNat 0 ∧ ([0, 24, 25] : List Int).getD (bwX l c4 3).toNat 0 ≤ 25 := getD3 (P := fun x => 0 ≤ x ∧ x ≤ 25) (by decide) (by decide) (by decide) (by decide)
    have c6 := l1Bytes l rfl (bwC l c4 3) (([0, 24, 25] : List Int).getD (bwX l c4 3).toNat 0) (by omega) (bwC_ok _ k3) hl
    refine ⟨⟨r.a, r.b, r.k, r.s, r.n, btX l (bwC l c4 3) (([0, 24, 25] : List Int).getD (bwX l c4 3).toNat 0).toNat⟩, btC l (bwC l c4 3) (([0, 24, 25] : List Int).getD (bwX l c4 3).toNat 0).toNat, ⟨by simp only; omega, by rw [btX_len]; omega⟩, ?_⟩
    rotate_left
    · refine agood eok (fn := Try.f67) kr_ de_ rfl kr_ ok_ ok_ ?_
      repeat' (first | refine o_cons ?_ | refine w_ok rfl ?_ | refine w_call rfl (c1) ?_ | refine w_call rfl (c2) ?_ | refine w_call rfl (c3') ?_ | refine w_call rfl (c5) ?_ | refine w_call rfl (c6) ?_ | refine o_nil ?_ | refine q_then ?_ | refine sq ?_ | refine aw_seq ?_ | refine aw_reg ?_ | refine w_pT rfl ka rfl ?_ | refine w_pF rfl ka rfl ?_ | refine o_y rfl ka ?_ | refine o_nT rfl ka ?_ | refine o_nF rfl ka ?_ | refine o_nU rfl ?_ | refine aw_cT rfl ka ?_ | refine aw_cF rfl ka ?_ | refine o_gT rfl (fun h => ?_) (fun h => ?_) | refine o_gF rfl (fun h => ?_) (fun h => ?_) | refine aw_cond rfl (fun h => ?_) (fun h => ?_) | refine aw_block ?_ | refine aw_skip ?_ | refine aw_ret ?_ | refine q_ret ?_ | refine q_blockN ?_ | refine q_blockR ?_ | refine aw_exit ?_ | refine q_exit ?_ | refine q_blockE ?_ | refine q_blockX de_ ?_ | refine fin_r rfl ?_ | (refine w_req rfl ?_ ?_; · exact rq_) | (refine w_lk rfl ?_; refine ⟨_, lk_, ?_⟩) | refine w_look (l' := _ :: _) rfl rfl ?_ | refine w_look (l' := []) rfl rfl ?_ | refine w_req rfl ?_ ?_ | refine w_pick rfl (fun b => ?_))
      refine Eq.trans ?_ (congrArg (fun n => (Tr.agg [.int .i64 r.a, .int .i64 r.b, .int .i64 r.k, .str r.s, .int .i64 r.n, .row 1 n (bT (btX l (bwC l c4 3) (([0, 24, 25] : List Int).getD (bwX l c4 3).toNat 0).toNat))], [curPB (btC l (bwC l c4 3) (([0, 24, 25] : List Int).getD (bwX l c4 3).toNat 0).toNat)])) (btX_len l (bwC l c4 3) (([0, 24, 25] : List Int).getD (bwX l c4 3).toNat 0).toNat).symm)
      rfl
  by_cases h5 : k = 5
  · subst h5
    have c5 := l1Below l rfl c4 6 k3 hl
    refine ⟨⟨r.a, r.b, bwX l c4 6, r.s, r.n, r.d⟩, bwC l c4 6, ⟨by simp only; omega, by simp only; omega⟩, ?_⟩
    rotate_left
    · refine agood eok (fn := Try.f67) kr_ de_ rfl kr_ ok_ ok_ ?_
      repeat' (first | refine o_cons ?_ | refine w_ok rfl ?_ | refine w_call rfl (c1) ?_ | refine w_call rfl (c2) ?_ | refine w_call rfl (c3') ?_ | refine w_call rfl (c5) ?_ | refine o_nil ?_ | refine q_then ?_ | refine sq ?_ | refine aw_seq ?_ | refine aw_reg ?_ | refine w_pT rfl ka rfl ?_ | refine w_pF rfl ka rfl ?_ | refine o_y rfl ka ?_ | refine o_nT rfl ka ?_ | refine o_nF rfl ka ?_ | refine o_nU rfl ?_ | refine aw_cT rfl ka ?_ | refine aw_cF rfl ka ?_ | refine o_gT rfl (fun h => ?_) (fun h => ?_) | refine o_gF rfl (fun h => ?_) (fun h => ?_) | refine aw_cond rfl (fun h => ?_) (fun h => ?_) | refine aw_block ?_ | refine aw_skip ?_ | refine aw_ret ?_ | refine q_ret ?_ | refine q_blockN ?_ | refine q_blockR ?_ | refine aw_exit ?_ | refine q_exit ?_ | refine q_blockE ?_ | refine q_blockX de_ ?_ | refine fin_r rfl ?_ | (refine w_req rfl ?_ ?_; · exact rq_) | (refine w_lk rfl ?_; refine ⟨_, lk_, ?_⟩) | refine w_look (l' := _ :: _) rfl rfl ?_ | refine w_look (l' := []) rfl rfl ?_ | refine w_req rfl ?_ ?_ | refine w_pick rfl (fun b => ?_))
      rfl
  · have q0 := dn 0 h0
    have q1 := dn 1 h1
    have q2 := dn 2 h2
    have q3 := dn 3 h3
    have q4 := dn 4 h4
    have q5 := dn 5 h5
    refine ⟨r, c4, ⟨by omega, by omega⟩, ?_⟩
    rotate_left
    · refine agood eok (fn := Try.f67) kr_ de_ rfl kr_ ok_ ok_ ?_
      repeat' (first | refine o_cons ?_ | refine w_ok rfl ?_ | refine w_call rfl (c1) ?_ | refine w_call rfl (c2) ?_ | refine w_call rfl (c3') ?_ | refine o_nil ?_ | refine q_then ?_ | refine sq ?_ | refine aw_seq ?_ | refine aw_reg ?_ | refine w_pT rfl ka rfl ?_ | refine w_pF rfl ka rfl ?_ | refine o_y rfl ka ?_ | refine o_nT rfl ka ?_ | refine o_nF rfl ka ?_ | refine o_nU rfl ?_ | refine aw_cT rfl ka ?_ | refine aw_cF rfl ka ?_ | refine o_gT rfl (fun h => ?_) (fun h => ?_) | refine o_gF rfl (fun h => ?_) (fun h => ?_) | refine aw_cond rfl (fun h => ?_) (fun h => ?_) | refine aw_block ?_ | refine aw_skip ?_ | refine aw_ret ?_ | refine q_ret ?_ | refine q_blockN ?_ | refine q_blockR ?_ | refine aw_exit ?_ | refine q_exit ?_ | refine q_blockE ?_ | refine q_blockX de_ ?_ | refine fin_r rfl ?_ | (refine w_req rfl ?_ ?_; · exact rq_) | (refine w_lk rfl ?_; refine ⟨_, lk_, ?_⟩) | refine w_look (l' := _ :: _) rfl rfl ?_ | refine w_look (l' := []) rfl rfl ?_ | refine w_req rfl ?_ ?_ | refine w_pick rfl (fun b => ?_))
      rfl
theorem drawPutRec (l : List UInt8) {m : Nat} (hm : m = l.length) (hl : l.length ≤ 4294967296) : ∃ r : Rc, (r.s.size ≤ 1000 ∧ r.d.length ≤ 1000) ∧ AGood e.P 16 [.ro (.row 1 m (bT l))] r.tr [.keep] := by
  subst hm
  have hok : Cur.ok ⟨0, newH l⟩ l := ⟨Int.le_refl _, by simp⟩
  obtain ⟨r, c', hb, c1⟩ := l13Any l rfl ⟨0, newH l⟩ hok hl
  refine ⟨r, hb, ?_⟩
  refine agood eok (fn := Try.f16) kr_ de_ rfl kr_ ok_ ok_ ?_
  repeat' (first | refine o_cons ?_ | refine w_ok rfl ?_ | refine w_call rfl (l1New l rfl hl) ?_ | refine w_call rfl (c1) ?_ | refine o_nil ?_ | refine q_then ?_ | refine sq ?_ | refine aw_seq ?_ | refine aw_reg ?_ | refine w_pT rfl ka rfl ?_ | refine w_pF rfl ka rfl ?_ | refine o_y rfl ka ?_ | refine o_nT rfl ka ?_ | refine o_nF rfl ka ?_ | refine o_nU rfl ?_ | refine aw_cT rfl ka ?_ | refine aw_cF rfl ka ?_ | refine o_gT rfl (fun h => ?_) (fun h => ?_) | refine o_gF rfl (fun h => ?_) (fun h => ?_) | refine aw_cond rfl (fun h => ?_) (fun h => ?_) | refine aw_block ?_ | refine aw_skip ?_ | refine aw_ret ?_ | refine q_ret ?_ | refine q_blockN ?_ | refine q_blockR ?_ | refine aw_exit ?_ | refine q_exit ?_ | refine q_blockE ?_ | refine q_blockX de_ ?_ | refine fin_r rfl ?_ | (refine w_req rfl ?_ ?_; · exact rq_) | (refine w_lk rfl ?_; refine ⟨_, lk_, ?_⟩) | refine w_look (l' := _ :: _) rfl rfl ?_ | refine w_look (l' := []) rfl rfl ?_ | refine w_req rfl ?_ ?_ | refine w_pick rfl (fun b => ?_))
  rfl
end Go.Proofs.Ytbkpmljdmlhmhaa
namespace Go.Proofs.Ytbkpmljdmlhmhaa
open Go Go.AM Ty
set_option maxRecDepth 100000
set_option maxHeartbeats 4000000
set_option linter.unusedVariables false
set_option linter.unusedSimpArgs false
attribute [local irreducible] aw aops aopsD wpo wpoL condW guardW thenQ blockQ finQ Le AGood
theorem opens22 : Go.AM.Opens Try.prog 22 (fun l : List UInt8 => [.row 1 l.length (bT l)]) (bdL bdAny) :=
  (Go.AM.opens_slice (sz := 1) Try.underlying22 (by kernel_rfl) (fun _ => rfl) (by decide) (fun a => by simp [cells1, Tr.cellB]) (Go.AM.opens_u8 Try.underlying5)).as id (fun l => by simp only [id]; rw [fm_one (f := fun b : UInt8 => Tr.int .u8 (b.toNat : Int))]) (fun _ h => h)
theorem sameBytes (l : List UInt8) {n m : Nat} (hn : n = l.length) (hm : m = l.length) (hl : l.length ≤ 4294967296) : AGood e.P 22 [.ro (.row 1 n (bT l)), .ro (.row 1 m (bT l))] (.bool true) [.keep, .keep] := by
  subst hn; subst hm
  refine agood eok (fn := Try.f22) kr_ de_ rfl kr_ ok_ ok_ ?_
  repeat' (first | refine o_cons ?_ | refine w_ok rfl ?_ | refine o_nil ?_ | refine q_then ?_ | refine sq ?_ | refine aw_seq ?_ | refine aw_reg ?_ | refine w_pT rfl ka rfl ?_ | refine w_pF rfl ka rfl ?_ | refine o_y rfl ka ?_ | refine o_nT rfl ka ?_ | refine o_nF rfl ka ?_ | refine o_nU rfl ?_ | refine aw_cT rfl ka ?_ | refine aw_cF rfl ka ?_ | refine o_gT rfl (fun h => ?_) (fun h => ?_) | refine o_gF rfl (fun h => ?_) (fun h => ?_) | refine aw_cond rfl (fun h => ?_) (fun h => ?_) | refine aw_block ?_ | refine aw_skip ?_ | refine aw_ret ?_ | refine q_ret ?_ | refine q_blockN ?_ | refine q_blockR ?_ | refine aw_exit ?_ | refine q_exit ?_ | refine q_blockE ?_ | refine q_blockX de_ ?_ | refine fin_r rfl ?_ | (refine w_req rfl ?_ ?_; · exact rq_) | (refine w_lk rfl ?_; refine ⟨_, lk_, ?_⟩) | refine w_look (l' := _ :: _) rfl rfl ?_ | refine w_look (l' := []) rfl rfl ?_ | refine w_req rfl ?_ ?_ | refine w_pick rfl (fun b => ?_))
  · simp at h
  refine loop1 (fun i : Nat => ⟨tbl [(0, .ro none 1 l.length (bT l)), (1, .ro none 1 l.length (bT l)), (5, .int .i64 i)], mbl [], [.ro (some 0) 1 l.length (bT l), .ro (some 1) 1 l.length (bT l)]⟩) (fun i => i ≤ l.length) (fun i => l.length - i) 0 (Nat.zero_le _) ?_ ?_
  · (refine le_of [] ?_; repeat' (first | exact trivial | refine an ?_ ?_ | with_reducible rfl | exact bt rfl | exact Or.inl rfl | exact Or.inr rfl | exact Eq.refl _))
  intro i hi
  repeat' (first | refine o_cons ?_ | refine w_ok rfl ?_ | refine o_nil ?_ | refine q_then ?_ | refine sq ?_ | refine aw_seq ?_ | refine aw_reg ?_ | refine w_pT rfl ka rfl ?_ | refine w_pF rfl ka rfl ?_ | refine o_y rfl ka ?_ | refine o_nT rfl ka ?_ | refine o_nF rfl ka ?_ | refine o_nU rfl ?_ | refine aw_cT rfl ka ?_ | refine aw_cF rfl ka ?_ | refine o_gT rfl (fun h => ?_) (fun h => ?_) | refine o_gF rfl (fun h => ?_) (fun h => ?_) | refine aw_cond rfl (fun h => ?_) (fun h => ?_) | refine aw_block ?_ | refine aw_skip ?_ | refine aw_ret ?_ | refine q_ret ?_ | refine q_blockN ?_ | refine q_blockR ?_ | refine aw_exit ?_ | refine q_exit ?_ | refine q_blockE ?_ | refine q_blockX de_ ?_ | refine fin_r rfl ?_ | (refine w_req rfl ?_ ?_; · exact rq_) | (refine w_lk rfl ?_; refine ⟨_, lk_, ?_⟩) | refine w_look (l' := _ :: _) rfl rfl ?_ | refine w_look (l' := []) rfl rfl ?_ | refine w_req rfl ?_ ?_ | refine w_pick rfl (fun b => ?_) | refine aw_drw kr_ ?_ | refine d_cons ?_ | refine l_ok rfl ?_ | refine d_nil kr_ ?_ | refine d_y rfl ka ?_ | refine d_nT rfl ka ?_ | refine d_nF rfl ka ?_ | refine d_nU rfl ?_ | refine l_pT rfl ka rfl ?_ | refine l_pF rfl ka rfl ?_ | refine d_gT rfl (fun h => ?_) (fun h => ?_) | refine d_gF rfl (fun h => ?_) (fun h => ?_) | (refine l_req rfl ?_ ?_; · exact rq_) | (refine l_lk rfl ?_; refine ⟨_, lk_, ?_⟩) | refine l_look (l' := _ :: _) rfl rfl ?_ | refine l_look (l' := []) rfl rfl ?_ | refine l_req rfl ?_ ?_)
  · simp at h
  · refine ⟨i + 1, ⟨by (exact side_), by (exact side_)⟩, ?_⟩
    (refine le_of [] ?_; repeat' (first | exact trivial | refine an ?_ ?_ | with_reducible rfl | exact bt rfl | exact Or.inl rfl | exact Or.inr rfl | exact Eq.refl _))
    first | omega | (simp; done) | (rw [wrap64] <;> omega) | (simp; omega)
  · rfl
theorem at_ (l : List UInt8) {m : Nat} (hm : m = l.length) (i : Int) (hi : 0 ≤ i ∧ i ≤ 1000) (hl : l.length ≤ 1048576) : ∃ x, (0 ≤ x ∧ x ≤ 255) ∧ AGood e.P 21 [.ro (.row 1 m (bT l)), .ro (.int .i64 i)] (.int .i64 x) [.keep, .keep] := by
  subst hm
  rcases Int.lt_or_le i l.length with h1 | h1
  · have k1 : decide (i < (l.length : Int)) = true := by simpa using h1
    have hb := (l.getD i.toNat 0).toNat_lt
    refine ⟨IntKind.i64.wrap ((l.getD i.toNat 0).toNat : Int), ⟨by rw [wrap64 (by omega) (by omega)]; omega, by rw [wrap64 (by omega) (by omega)]; omega⟩, ?_⟩
    refine agood eok (fn := Try.f21) kr_ de_ rfl kr_ ok_ ok_ ?_
    repeat' (first | refine o_cons ?_ | refine w_ok rfl ?_ | refine o_nil ?_ | refine q_then ?_ | refine sq ?_ | refine aw_seq ?_ | refine aw_reg ?_ | refine w_pT rfl ka rfl ?_ | refine w_pF rfl ka rfl ?_ | refine o_y rfl ka ?_ | refine o_nT rfl ka ?_ | refine o_nF rfl ka ?_ | refine o_nU rfl ?_ | refine aw_cT rfl ka ?_ | refine aw_cF rfl ka ?_ | refine o_gT rfl (fun h => ?_) (fun h => ?_) | refine o_gF rfl (fun h => ?_) (fun h => ?_) | refine aw_cond rfl (fun h => ?_) (fun h => ?_) | refine aw_block ?_ | refine aw_skip ?_ | refine aw_ret ?_ | refine q_ret ?_ | refine q_blockN ?_ | refine q_blockR ?_ | refine aw_exit ?_ | refine q_exit ?_ | refine q_blockE ?_ | refine q_blockX de_ ?_ | refine fin_r rfl ?_ | (refine w_req rfl ?_ ?_; · exact rq_) | (refine w_lk rfl ?_; refine ⟨_, lk_, ?_⟩) | refine w_look (l' := _ :: _) rfl rfl ?_ | refine w_look (l' := []) rfl rfl ?_ | refine w_req rfl ?_ ?_ | refine w_pick rfl (fun b => ?_))
    rfl
  · have k1 : decide (i < (l.length : Int)) = false := by simpa using h1
    have w1 : IntKind.i64.wrap (i * 31) = i * 31 := wrap64 (by omega) (by omega)
    have w2 : IntKind.i64.wrap ((l.length : Int) * 7) = (l.length : Int) * 7 := wrap64 (by omega) (by omega)
    have w3 : IntKind.i64.wrap (i * 31 + (l.length : Int) * 7) = i * 31 + (l.length : Int) * 7 := wrap64 (by omega) (by omega)
    have hb : 0 ≤ (i * 31 + (l.length : Int) * 7).tmod 256 ∧ (i * 31 + (l.length : Int) * 7).tmod 256 < 256 := tmod_bd (by omega) (by decide)
    refine ⟨(IntKind.i64.wrap (IntKind.i64.wrap (i * 31) + IntKind.i64.wrap ((l.length : Int) * 7))).tmod 256, ⟨by rw [w1, w2, w3]; omega, by rw [w1, w2, w3]; omega⟩, ?_⟩
    refine agood eok (fn := Try.f21) kr_ de_ rfl kr_ ok_ ok_ ?_
    repeat' (first | refine o_cons ?_ | refine w_ok rfl ?_ | refine o_nil ?_ | refine q_then ?_ | refine sq ?_ | refine aw_seq ?_ | refine aw_reg ?_ | refine w_pT rfl ka rfl ?_ | refine w_pF rfl ka rfl ?_ | refine o_y rfl ka ?_ | refine o_nT rfl ka ?_ | refine o_nF rfl ka ?_ | refine o_nU rfl ?_ | refine aw_cT rfl ka ?_ | refine aw_cF rfl ka ?_ | refine o_gT rfl (fun h => ?_) (fun h => ?_) | refine o_gF rfl (fun h => ?_) (fun h => ?_) | refine aw_cond rfl (fun h => ?_) (fun h => ?_) | refine aw_block ?_ | refine aw_skip ?_ | refine aw_ret ?_ | refine q_ret ?_ | refine q_blockN ?_ | refine q_blockR ?_ | refine aw_exit ?_ | refine q_exit ?_ | refine q_blockE ?_ | refine q_blockX de_ ?_ | refine fin_r rfl ?_ | (refine w_req rfl ?_ ?_; · exact rq_) | (refine w_lk rfl ?_; refine ⟨_, lk_, ?_⟩) | refine w_look (l' := _ :: _) rfl rfl ?_ | refine w_look (l' := []) rfl rfl ?_ | refine w_req rfl ?_ ?_ | refine w_pick rfl (fun b => ?_))
    rfl
/-- a byte with a bit turned is another one -/
theorem xor_ne {x k : Nat} (hx : x < 256) (hk : k < 8) : IntKind.u8.wrap ((BitVec.ofInt IntKind.u8.bits (x : Int) ^^^ BitVec.ofInt IntKind.u8.bits (IntKind.u8.wrap ((1 : Int) * 2 ^ (min ((k : Int)).toNat IntKind.u8.bits)))).toNat : Int) ≠ (x : Int) := by
  have e : IntKind.u8.wrap ((1 : Int) * 2 ^ (min ((k : Int)).toNat IntKind.u8.bits)) = ((2 ^ k : Nat) : Int) := by
    match k, hk with
    | 0, _ | 1, _ | 2, _ | 3, _ | 4, _ | 5, _ | 6, _ | 7, _ => decide
  have hp : 2 ^ k < 2 ^ 8 := Nat.pow_lt_pow_right (by decide) hk
  rw [e]
  show IntKind.u8.wrap ((BitVec.ofInt 8 (x : Int) ^^^ BitVec.ofInt 8 ((2 ^ k : Nat) : Int)).toNat : Int) ≠ _
  rw [nat_xor (w := 8) (by omega) hp]
  have hlt : x ^^^ 2 ^ k < 256 := Nat.xor_lt_two_pow (n := 8) (by omega) hp
  rw [wrapU8 (by omega) (by omega)]
  intro h
  have h : x ^^^ 2 ^ k = x := by omega
  have : 2 ^ k = 0 := by
    have := congrArg (fun y => x ^^^ y) h
    simp only [← Nat.xor_assoc, Nat.xor_self, Nat.zero_xor] at this
    exact this
  exact absurd this (Nat.ne_of_gt (Nat.pow_pos (by decide)))
/-- with a byte of its sum turned, no record is told -/
theorem turned_none {r : Rc} (hok : recOkM r = true) {j : Nat} (hj : j < 4) {y : UInt8} (hy : y ≠ (putB r).getD ((putB r).length - 1 - j) 0) : getRecM ⟨((putB r).set ((putB r).length - 1 - j) y).toArray⟩ = none := by
  have hl : (putB r).length = (putQ r).length + 4 := by unfold putB; simp
  have e : (putB r).set ((putB r).length - 1 - j) y = putQ r ++ (bigM (crcM (putQ r)) 4).set (3 - j) y := by
    rw [hl]
    unfold putB
    rw [List.set_append_right _ _ (by omega), show (putQ r).length + 4 - 1 - j - (putQ r).length = 3 - j by omega]
  unfold getRecM
  rw [e, parse_put hok, Option.bind_some, if_neg]
  rw [hok, Bool.true_and, beq_iff_eq, ByteArray.toList_eq, ByteArray.toList_eq]
  intro h
  have h : putB r = putQ r ++ (bigM (crcM (putQ r)) 4).set (3 - j) y := by
    unfold putS at h
    rw [if_pos hok] at h
    simpa using h
  rw [← e] at h
  have this : (putB r).getD ((putB r).length - 1 - j) 0 = ((putB r).set ((putB r).length - 1 - j) y).getD ((putB r).length - 1 - j) 0 := congrArg (fun l : List UInt8 => l.getD ((putB r).length - 1 - j) 0) h
  rw [getD_set_same (by omega)] at this
  exact hy this.symm
theorem getRec_put {r : Rc} (hok : recOkM r = true) : getRecM (putS r) = some r := by
  unfold getRecM
  have e : (putS r).data.toList = putQ r ++ bigM (crcM (putQ r)) 4 := by unfold putS; rw [if_pos hok]; rfl
  rw [e, parse_put hok, Option.bind_some, hok]
  simp
theorem putB_len {r : Rc} (hok : recOkM r = true) : 13 ≤ (putB r).length ∧ (putB r).length ≤ 64 := by
  obtain ⟨h1, h2, h3, h4, h5, h6⟩ := recOk_nat hok
  have hs : ((r.s.size : Int) ≤ 8) := by
    unfold idOkM at h5
    simp only [Bool.and_eq_true, decide_eq_true_eq] at h5
    exact h5.2.2
  have hl : r.s.data.toList.length = r.s.size := (sz_len r.s).symm
  unfold putB putQ
  simp only [List.length_append, bigM_len, List.length_cons, List.length_nil, hl]
  omega
theorem putS_ok {r : Rc} (hok : recOkM r = true) : putS r = ⟨(putB r).toArray⟩ := by unfold putS; rw [if_pos hok]
theorem getTurned {r : Rc} (hok : recOkM r = true) {i X : Int} {j : Nat} (hj : j < 4) (hi : i = ((putS r).size : Int) - 1 - j) (hX : IntKind.u8.wrap X ≠ (((putS r).data.toList.getD i.toNat 0).toNat : Int)) : AGood e.P 20 [.ro (.str ⟨((bT ((putS r).data.toList.set i.toNat (ub X))).map AM.byteTr).toArray⟩)] (recTr none) [.keep] := by
  have hb := putB_len hok
  have e1 : (putS r).data.toList = putB r := by rw [putS_ok hok]
  have e2 : (putS r).size = (putB r).length := by rw [putS_ok hok]; rfl
  have e3 : i.toNat = (putB r).length - 1 - j := by rw [hi, e2]; omega
  rw [bT_bytes, e1, e3]
  have := getRec ⟨((putB r).set ((putB r).length - 1 - j) (ub X)).toArray⟩ (by show ((putB r).set _ _).length ≤ _; rw [List.length_set]; omega)
  rw [turned_none hok hj (fun h => hX (by rw [e1, e3, wrap_ub, h]))] at this
  exact this
attribute [local irreducible] getRecM putB recOkM
theorem law_FnRecords (l : List UInt8) (h : bdL bdAny l) : AGood e.P 3 [.ro (.row 1 l.length (bT l))] (.bool true) [.keep] := by
  rcases Nat.lt_or_ge 1048576 l.length with hb | hb
  · have k0 : decide ((l.length : Int) > 1048576) = true := by simp; omega
    refine agood eok (fn := Try.f3) kr_ de_ rfl kr_ ok_ ok_ ?_
    repeat' (first | refine o_cons ?_ | refine w_ok rfl ?_ | refine w_call rfl (big l rfl) ?_ | refine o_nil ?_ | refine q_then ?_ | refine sq ?_ | refine aw_seq ?_ | refine aw_reg ?_ | refine w_pT rfl ka rfl ?_ | refine w_pF rfl ka rfl ?_ | refine o_y rfl ka ?_ | refine o_nT rfl ka ?_ | refine o_nF rfl ka ?_ | refine o_nU rfl ?_ | refine aw_cT rfl ka ?_ | refine aw_cF rfl ka ?_ | refine o_gT rfl (fun h => ?_) (fun h => ?_) | refine o_gF rfl (fun h => ?_) (fun h => ?_) | refine aw_cond rfl (fun h => ?_) (fun h => ?_) | refine aw_block ?_ | refine aw_skip ?_ | refine aw_ret ?_ | refine q_ret ?_ | refine q_blockN ?_ | refine q_blockR ?_ | refine aw_exit ?_ | refine q_exit ?_ | refine q_blockE ?_ | refine q_blockX de_ ?_ | refine fin_r rfl ?_ | (refine w_req rfl ?_ ?_; · exact rq_) | (refine w_lk rfl ?_; refine ⟨_, lk_, ?_⟩) | refine w_look (l' := _ :: _) rfl rfl ?_ | refine w_look (l' := []) rfl rfl ?_ | refine w_req rfl ?_ ?_ | refine w_pick rfl (fun b => ?_))
    rfl
  · have k0 : decide ((l.length : Int) > 1048576) = false := by simp; omega
    obtain ⟨r, hr, c1⟩ := drawPutRec l rfl (by omega)
    have c2 := putRec r rfl (by omega) (by omega)
    have c3 := recOkS r rfl (by omega)
    have c4 := recOk r rfl (by omega)
    cases hok : recOkM r with
    | false =>
      rw [hok] at c3 c4
      have hp : putS r = emp := by unfold putS; rw [hok]; rfl
      rw [hp] at c2
      refine agood eok (fn := Try.f3) kr_ de_ rfl kr_ ok_ ok_ ?_
      repeat' (first | refine o_cons ?_ | refine w_ok rfl ?_ | refine w_call rfl (big l rfl) ?_ | refine w_call rfl (c1) ?_ | refine w_call rfl (c2) ?_ | refine w_call rfl (c3) ?_ | refine w_call rfl (c4) ?_ | refine o_nil ?_ | refine q_then ?_ | refine sq ?_ | refine aw_seq ?_ | refine aw_reg ?_ | refine w_pT rfl ka rfl ?_ | refine w_pF rfl ka rfl ?_ | refine o_y rfl ka ?_ | refine o_nT rfl ka ?_ | refine o_nF rfl ka ?_ | refine o_nU rfl ?_ | refine aw_cT rfl ka ?_ | refine aw_cF rfl ka ?_ | refine o_gT rfl (fun h => ?_) (fun h => ?_) | refine o_gF rfl (fun h => ?_) (fun h => ?_) | refine aw_cond rfl (fun h => ?_) (fun h => ?_) | refine aw_block ?_ | refine aw_skip ?_ | refine aw_ret ?_ | refine q_ret ?_ | refine q_blockN ?_ | refine q_blockR ?_ | refine aw_exit ?_ | refine q_exit ?_ | refine q_blockE ?_ | refine q_blockX de_ ?_ | refine fin_r rfl ?_ | (refine w_req rfl ?_ ?_; · exact rq_) | (refine w_lk rfl ?_; refine ⟨_, lk_, ?_⟩) | refine w_look (l' := _ :: _) rfl rfl ?_ | refine w_look (l' := []) rfl rfl ?_ | refine w_req rfl ?_ ?_ | refine w_pick rfl (fun b => ?_))
      all_goals first | rfl | (exfalso; simp at h)
    | true =>
      rw [hok] at c3 c4
      obtain ⟨x2, hx2, c5⟩ := at_ l rfl 2 (by decide) hb
      obtain ⟨x3, hx3, c6⟩ := at_ l rfl 3 (by decide) hb
      have hbl := putB_len hok
      have hsz : (putS r).size = (putB r).length := by rw [putS_ok hok]; rfl
      have hsz2 : (putS r).data.toList.length = (putB r).length := by rw [← sz_len, hsz]
      obtain ⟨j, hj⟩ : ∃ j : Nat, x2.tmod 4 = j := Int.eq_ofNat_of_zero_le (tmod_bd (by omega) (by decide)).1
      have hj4 : j < 4 := by have := (tmod_bd hx2.1 (by decide : (0 : Int) < 4)).2; omega
      obtain ⟨k, hk⟩ : ∃ k : Nat, x3.tmod 8 = k := Int.eq_ofNat_of_zero_le (tmod_bd (by omega) (by decide)).1
      have hk8 : k < 8 := by have := (tmod_bd hx3.1 (by decide : (0 : Int) < 8)).2; omega
      have w1 : IntKind.i64.wrap (((putS r).size : Int) - 1) = ((putS r).size : Int) - 1 := wrap64 (by omega) (by omega)
      have w2 : IntKind.i64.wrap (IntKind.i64.wrap (((putS r).size : Int) - 1) - x2.tmod 4) = ((putS r).size : Int) - 1 - j := by rw [w1, hj, wrap64 (by omega) (by omega)]
      have w3 : IntKind.u64.wrap (x3.tmod 8) = (k : Int) := by rw [hk, wrapU64 (by omega) (by omega)]
      have c7 := getRec (putS r) (by omega)
      rw [getRec_put hok] at c7
      have g1 : 0 ≤ IntKind.i64.wrap (IntKind.i64.wrap (((putS r).size : Int) - 1) - x2.tmod 4) ∧ IntKind.i64.wrap (IntKind.i64.wrap (((putS r).size : Int) - 1) - x2.tmod 4) < ((putS r).size : Int) := by rw [w2]; omega
      have g2 : 0 ≤ IntKind.i64.wrap (IntKind.i64.wrap (((putS r).size : Int) - 1) - x2.tmod 4) ∧ IntKind.i64.wrap (IntKind.i64.wrap (((putS r).size : Int) - 1) - x2.tmod 4) < ((putS r).data.toList.length : Int) := by rw [w2]; omega
      have g3 : 0 ≤ IntKind.u64.wrap (x3.tmod 8) := by rw [w3]; omega
      have s1 : decide (((putS r).size : Int) ≤ 64) = true := by simp; omega
      refine agood eok (fn := Try.f3) kr_ de_ rfl kr_ ok_ ok_ ?_
      repeat' (first | refine o_cons ?_ | refine w_ok rfl ?_ | refine w_call rfl (big l rfl) ?_ | refine w_call rfl (c1) ?_ | refine w_call rfl (c2) ?_ | refine w_call rfl (c3) ?_ | refine w_call rfl (c4) ?_ | refine w_call rfl (c5) ?_ | refine w_call rfl (c6) ?_ | refine w_call rfl (c7) ?_ | refine w_call rfl (getTurned hok hj4 w2 (by rw [w3]; exact xor_ne (UInt8.toNat_lt _) hk8)) ?_ | refine w_call rfl (sameBytes r.d rfl rfl (by omega)) ?_ | refine o_nil ?_ | refine q_then ?_ | refine sq ?_ | refine aw_seq ?_ | refine aw_reg ?_ | refine w_pT rfl ka rfl ?_ | refine w_pF rfl ka rfl ?_ | refine o_y rfl ka ?_ | refine o_nT rfl ka ?_ | refine o_nF rfl ka ?_ | refine o_nU rfl ?_ | refine aw_cT rfl ka ?_ | refine aw_cF rfl ka ?_ | refine o_gT rfl (fun h => ?_) (fun h => ?_) | refine o_gF rfl (fun h => ?_) (fun h => ?_) | refine aw_cond rfl (fun h => ?_) (fun h => ?_) | refine aw_block ?_ | refine aw_skip ?_ | refine aw_ret ?_ | refine q_ret ?_ | refine q_blockN ?_ | refine q_blockR ?_ | refine aw_exit ?_ | refine q_exit ?_ | refine q_blockE ?_ | refine q_blockX de_ ?_ | refine fin_r rfl ?_ | (refine w_req rfl ?_ ?_; · exact rq_) | (refine w_lk rfl ?_; refine ⟨_, lk_, ?_⟩) | refine w_look (l' := _ :: _) rfl rfl ?_ | refine w_look (l' := []) rfl rfl ?_ | refine w_req rfl ?_ ?_ | refine w_pick rfl (fun b => ?_) | refine l_call rfl (big l rfl) ?_ | refine l_call rfl (c1) ?_ | refine l_call rfl (c2) ?_ | refine l_call rfl (c3) ?_ | refine l_call rfl (c4) ?_ | refine l_call rfl (c5) ?_ | refine l_call rfl (c6) ?_ | refine l_call rfl (c7) ?_ | refine l_call rfl (getTurned hok hj4 w2 (by rw [w3]; exact xor_ne (UInt8.toNat_lt _) hk8)) ?_ | refine l_call rfl (sameBytes r.d rfl rfl (by omega)) ?_ | refine aw_drw kr_ ?_ | refine d_cons ?_ | refine l_ok rfl ?_ | refine d_nil kr_ ?_ | refine d_y rfl ka ?_ | refine d_nT rfl ka ?_ | refine d_nF rfl ka ?_ | refine d_nU rfl ?_ | refine l_pT rfl ka rfl ?_ | refine l_pF rfl ka rfl ?_ | refine d_gT rfl (fun h => ?_) (fun h => ?_) | refine d_gF rfl (fun h => ?_) (fun h => ?_) | (refine l_req rfl ?_ ?_; · exact rq_) | (refine l_lk rfl ?_; refine ⟨_, lk_, ?_⟩) | refine l_look (l' := _ :: _) rfl rfl ?_ | refine l_look (l' := []) rfl rfl ?_ | refine l_req rfl ?_ ?_)
      all_goals first | exact congrArg (fun b => (Tr.bool b, [PB.keep])) s1 | (exfalso; simp at h)
end Go.Proofs.Ytbkpmljdmlhmhaa
namespace Go.Proofs.Ytbkpmljdmlhmhaa
open Go Go.AM Ty
set_option maxRecDepth 100000
set_option maxHeartbeats 4000000
set_option linter.unusedVariables false
set_option linter.unusedSimpArgs false
attribute [local irreducible] aw aops aopsD wpo wpoL condW guardW thenQ blockQ finQ Le AGood
theorem lk_D4 {p : Prop} (h : p := by first | exact bT_app _ _ | exact mp_el (f := Tr.str) emp side_ | exact mp_up (f := Tr.str) side_ | exact mp_snoc (f := Tr.str) _ _ | exact lk_) : p := h
theorem ok_D4 {p : Prop} (h : p := by first | exact ⟨⟨sT_plain _, sT_plain _, trivial⟩, by simp [cells1, Tr.cellB]⟩ | (simp [Tr.okR, Tr.okRL, Tr.plainL, Tr.plain, cells1, Tr.cellB, PB.okRL, PB.okR, bT_plain, sT_plain, oT_plain, nT_plain, sT_plain]; done) | exact ok_) : p := h
attribute [local irreducible] bwC bwX btC btX rdC rdR putS
theorem diskNewS (n : Int) (hn : n ≤ 200) : AGood e.P 126 [.ro (.int .i64 n)] (dkT (List.replicate n.toNat emp) (List.replicate n.toNat emp)) [.keep] := by
  refine agood eok (fn := Try.f126) kr_ de_ rfl kr_ ok_D4 ok_D4 ?_
  have hc : decide (n ≤ 200) = true := by simpa using hn
  repeat' (first | refine o_cons ?_ | refine w_ok rfl ?_ | refine o_nil ?_ | refine q_then ?_ | refine sq ?_ | refine aw_seq ?_ | refine aw_reg ?_ | refine w_pT rfl ka rfl ?_ | refine w_pF rfl ka rfl ?_ | refine o_y rfl ka ?_ | refine o_nT rfl ka ?_ | refine o_nF rfl ka ?_ | refine o_nU rfl ?_ | refine aw_cT rfl ka ?_ | refine aw_cF rfl ka ?_ | refine o_gT rfl (fun h => ?_) (fun h => ?_) | refine o_gF rfl (fun h => ?_) (fun h => ?_) | refine aw_cond rfl (fun h => ?_) (fun h => ?_) | refine aw_block ?_ | refine aw_skip ?_ | refine aw_ret ?_ | refine q_ret ?_ | refine q_blockN ?_ | refine q_blockR ?_ | refine aw_exit ?_ | refine q_exit ?_ | refine q_blockE ?_ | refine q_blockX de_ ?_ | refine fin_r rfl ?_ | (refine w_req rfl ?_ ?_; · exact rq_) | (refine w_lk rfl ?_; refine ⟨_, lk_D4, ?_⟩) | refine w_look (l' := _ :: _) rfl rfl ?_ | refine w_look (l' := []) rfl rfl ?_ | refine w_req rfl ?_ ?_ | refine w_pick rfl (fun b => ?_))
  refine loop1 (fun i : Nat => ⟨tbl [(0, .int .i64 n), (2, .ptr 3000 0 0 0), (3, .ptr 4000 0 0 0), (4, .int .i64 i)], mbl [(3000, .box 0 42 [.nils, .nils]), (4000, .box 0 42 [.own 19000 0, .own 24000 0]), (19000, .row 0 0 1 i (sT (List.replicate i emp))), (24000, .row 0 0 1 i (sT (List.replicate i emp)))], [.int .i64 n]⟩) (fun i => (i : Int) ≤ max n 0) (fun i => n.toNat - i) 0 (by omega) ?_ ?_
  · refine Le.trans (Le.nilB 4000 0 19000 0 1 rfl rfl (fun b0 h => by cases h) (by decide)) ?_
    refine Le.trans (Le.nilB 4000 1 24000 0 1 rfl rfl (fun b0 h => by cases h) (by decide)) ?_
    (refine le_of [(3000, 3000), (4000, 4000), (19000, 19000), (24000, 24000)] ?_; repeat' (first | exact trivial | refine an ?_ ?_ | with_reducible rfl | exact bt rfl | exact Or.inl rfl | exact Or.inr rfl | exact Eq.refl _))
  intro i hi
  repeat' (first | refine o_cons ?_ | refine w_ok rfl ?_ | refine o_nil ?_ | refine q_then ?_ | refine sq ?_ | refine aw_seq ?_ | refine aw_reg ?_ | refine w_pT rfl ka rfl ?_ | refine w_pF rfl ka rfl ?_ | refine o_y rfl ka ?_ | refine o_nT rfl ka ?_ | refine o_nF rfl ka ?_ | refine o_nU rfl ?_ | refine aw_cT rfl ka ?_ | refine aw_cF rfl ka ?_ | refine o_gT rfl (fun h => ?_) (fun h => ?_) | refine o_gF rfl (fun h => ?_) (fun h => ?_) | refine aw_cond rfl (fun h => ?_) (fun h => ?_) | refine aw_block ?_ | refine aw_skip ?_ | refine aw_ret ?_ | refine q_ret ?_ | refine q_blockN ?_ | refine q_blockR ?_ | refine aw_exit ?_ | refine q_exit ?_ | refine q_blockE ?_ | refine q_blockX de_ ?_ | refine fin_r rfl ?_ | (refine w_req rfl ?_ ?_; · exact rq_) | (refine w_lk rfl ?_; refine ⟨_, lk_D4, ?_⟩) | refine w_look (l' := _ :: _) rfl rfl ?_ | refine w_look (l' := []) rfl rfl ?_ | refine w_req rfl ?_ ?_ | refine w_pick rfl (fun b => ?_))
  · have hin : (i : Int) < n := by (exact side_)
    refine ⟨i + 1, ⟨by omega, by omega⟩, ?_⟩
    (refine le_of [(3000, 3000), (4000, 4000), (19000, 19000), (24000, 24000)] ?_; repeat' (first | exact trivial | refine an ?_ ?_ | with_reducible rfl | exact bt rfl | exact Or.inl rfl | exact Or.inr rfl | exact Eq.refl _))
    all_goals first | exact congrArg sT (List.replicate_succ' (a := emp)).symm | (first | omega | (simp; done) | (rw [wrap64] <;> omega) | (simp; omega))
  · have : i = n.toNat := by (exact side_)
    subst this
    simp
/-- a drawn disk with records -/
structure Dk3 where
  c : Cur
  a : List ByteArray
  b : List ByteArray
def dkE (l : List UInt8) (c : Cur) : Int := ([1, 1, 1, 0, 2] : List Int).getD (bwX l c 5).toNat 0
def dkStep (l : List UInt8) (i : Nat) (s : Dk3) : Dk3 :=
  let r := rdR l s.c i
  let c1 := rdC l s.c
  let c2 := bwC l c1 5
  let c3 := bwC l c2 6
  let a' := if bwX l c2 6 = 0 then s.a else s.a.set i (putS ⟨dkE l c1, r.b, r.k, r.s, r.n, r.d⟩)
  ⟨bwC l c3 2, a', if bwX l c3 2 = 0 then s.b.set i (a'.getD i emp) else s.b⟩
def dkGo (l : List UInt8) (c : Cur) : Nat → Dk3
  | 0 => ⟨c, List.replicate 5 emp, List.replicate 5 emp⟩
  | i + 1 => dkStep l i (dkGo l c i)
theorem putS_size (r : Rc) : (putS r).size ≤ 64 := by
  unfold putS
  split
  · rename_i hok
    show (putB r).length ≤ 64
    exact (putB_len hok).2
  · decide
def Dk3.good (s : Dk3) (l : List UInt8) : Prop := s.c.ok l ∧ s.a.length = 5 ∧ s.b.length = 5 ∧ (∀ x ∈ s.a, x.size ≤ 64) ∧ ∀ x ∈ s.b, x.size ≤ 64
theorem set_all {α : Type} {p : α → Prop} {l : List α} {i : Nat} {x : α} (h : ∀ a ∈ l, p a) (hx : p x) : ∀ a ∈ l.set i x, p a := fun a ha => by
  rcases List.mem_or_eq_of_mem_set ha with h1 | h1
  · exact h a h1
  · rw [h1]; exact hx
theorem getD_or {α : Type} {p : α → Prop} {l : List α} {i : Nat} {z : α} (h : ∀ a ∈ l, p a) (hz : p z) : p (l.getD i z) := by
  rw [List.getD_eq_getElem?_getD]
  cases hx : l[i]? with
  | none => exact hz
  | some x => exact h x (List.mem_of_getElem? hx)
theorem ite_len {α : Type} {p : Prop} [Decidable p] {l : List α} {i : Nat} {x : α} {k : Nat} (h : l.length = k) : (if p then l.set i x else l).length = k ∧ (if p then l else l.set i x).length = k := by
  constructor <;> split <;> simp [h]
theorem ite_all {α : Type} {q : α → Prop} {p : Prop} [Decidable p] {l : List α} {i : Nat} {x : α} (h : ∀ a ∈ l, q a) (hx : q x) : (∀ a ∈ (if p then l.set i x else l), q a) ∧ ∀ a ∈ (if p then l else l.set i x), q a := by
  constructor <;> split
  · exact set_all h hx
  · exact h
  · exact h
  · exact set_all h hx
theorem dkStep_good {l : List UInt8} {i : Nat} {s : Dk3} (h : s.good l) : (dkStep l i s).good l := by
  obtain ⟨h1, h2, h3, h4, h5⟩ := h
  have ha : ∀ x ∈ (dkStep l i s).a, x.size ≤ 64 := (ite_all h4 (putS_size _)).2
  exact ⟨bwC_ok _ (bwC_ok _ (bwC_ok _ (rdC_ok h1))), (ite_len h2).2, (ite_len h3).1, ha, (ite_all h5 (getD_or (p := fun x : ByteArray => x.size ≤ 64) ha (by decide))).1⟩
theorem dkGo_good {l : List UInt8} {c : Cur} (h : c.ok l) : ∀ i, (dkGo l c i).good l
  | 0 => ⟨h, rfl, rfl, fun x hx => by rw [List.eq_of_mem_replicate hx]; decide, fun x hx => by rw [List.eq_of_mem_replicate hx]; decide⟩
  | i + 1 => dkStep_good (dkGo_good h i)
theorem l13Disk (l : List UInt8) {m : Nat} (hm : m = l.length) (c : Cur) (hc : c.ok l) (hl : l.length ≤ 4294967296) : AGood e.P 90 [curPA l m c] (dkT (dkGo l c 5).a (dkGo l c 5).b) [curPB (dkGo l c 5).c] := by
  subst hm
  refine agood eok (fn := Try.f90) kr_ de_ rfl kr_ ok_D4 ok_D4 ?_
  repeat' (first | refine o_cons ?_ | refine w_ok rfl ?_ | refine w_call rfl (diskNewS 5 (by decide)) ?_ | refine o_nil ?_ | refine q_then ?_ | refine sq ?_ | refine aw_seq ?_ | refine aw_reg ?_ | refine w_pT rfl ka rfl ?_ | refine w_pF rfl ka rfl ?_ | refine o_y rfl ka ?_ | refine o_nT rfl ka ?_ | refine o_nF rfl ka ?_ | refine o_nU rfl ?_ | refine aw_cT rfl ka ?_ | refine aw_cF rfl ka ?_ | refine o_gT rfl (fun h => ?_) (fun h => ?_) | refine o_gF rfl (fun h => ?_) (fun h => ?_) | refine aw_cond rfl (fun h => ?_) (fun h => ?_) | refine aw_block ?_ | refine aw_skip ?_ | refine aw_ret ?_ | refine q_ret ?_ | refine q_blockN ?_ | refine q_blockR ?_ | refine aw_exit ?_ | refine q_exit ?_ | refine q_blockE ?_ | refine q_blockX de_ ?_ | refine fin_r rfl ?_ | (refine w_req rfl ?_ ?_; · exact rq_) | (refine w_lk rfl ?_; refine ⟨_, lk_D4, ?_⟩) | refine w_look (l' := _ :: _) rfl rfl ?_ | refine w_look (l' := []) rfl rfl ?_ | refine w_req rfl ?_ ?_ | refine w_pick rfl (fun b => ?_))
  refine loop1 (fun i : Nat => ⟨tbl [(0, .ptr 0 0 0 0), (2, .ptr 3000 0 0 0), (3, .ptr 4000 0 0 0), (4, .int .i64 i)], mbl [(0, .box 0 124 [.ro (some 0) 1 l.length (bT l), .int .i64 (dkGo l c i).c.i, .int .i64 (dkGo l c i).c.h]), (3000, .box 0 42 [.nils, .nils]), (4000, .box 0 42 [.own 7000 0, .own 7001 0]), (7000, .row 0 0 1 (dkGo l c i).a.length (sT (dkGo l c i).a)), (7001, .row 0 0 1 (dkGo l c i).b.length (sT (dkGo l c i).b))], [.ptr 0 0 0 0]⟩) (fun i => i ≤ 5) (fun i => 5 - i) 0 (by decide) ?_ ?_
  · (refine le_of [(0, 0), (3000, 3000), (4000, 4000), (7000, 7000), (7001, 7001)] ?_; repeat' (first | exact trivial | refine an ?_ ?_ | with_reducible rfl | exact bt rfl | exact Or.inl rfl | exact Or.inr rfl | exact Eq.refl _))
  intro i hi
  obtain ⟨g1, g2, g3, g4, g5⟩ := dkGo_good (l := l) hc i
  have e1 : dkGo l c (i + 1) = dkStep l i (dkGo l c i) := rfl
  generalize hse : dkGo l c i = s at *
  have c1 := l13Rec l rfl s.c i g1 hl
  have k1 : (rdC l s.c).ok l := rdC_ok g1
  have c2 := l1Int l rfl (rdC l s.c) [1, 1, 1, 0, 2] (k := 5) rfl (by decide) k1 hl
  have k2 : (bwC l (rdC l s.c) 5).ok l := bwC_ok _ k1
  have c3 := l1Once l rfl (bwC l (rdC l s.c) 5) 6 k2 hl
  have k3 : (bwC l (bwC l (rdC l s.c) 5) 6).ok l := bwC_ok _ k2
  have c4 := l1Once l rfl (bwC l (bwC l (rdC l s.c) 5) 6) 2 k3 hl
  have b2 : (rdR l s.c i).s.size ≤ 3 := by unfold rdR; exact rdS_size _ _
  have b1 := rdR_d l s.c i
  have c5 := putRecS ⟨dkE l (rdC l s.c), (rdR l s.c i).b, (rdR l s.c i).k, (rdR l s.c i).s, (rdR l s.c i).n, (rdR l s.c i).d⟩ rfl (by simp only; omega) (by simp only; omega)
  repeat' (first | refine o_cons ?_ | refine w_ok rfl ?_ | refine w_call rfl (c1) ?_ | refine w_call rfl (c2) ?_ | refine w_call rfl (c3) ?_ | refine w_call rfl (c4) ?_ | refine w_call rfl (c5) ?_ | refine o_nil ?_ | refine q_then ?_ | refine sq ?_ | refine aw_seq ?_ | refine aw_reg ?_ | refine w_pT rfl ka rfl ?_ | refine w_pF rfl ka rfl ?_ | refine o_y rfl ka ?_ | refine o_nT rfl ka ?_ | refine o_nF rfl ka ?_ | refine o_nU rfl ?_ | refine aw_cT rfl ka ?_ | refine aw_cF rfl ka ?_ | refine o_gT rfl (fun h => ?_) (fun h => ?_) | refine o_gF rfl (fun h => ?_) (fun h => ?_) | refine aw_cond rfl (fun h => ?_) (fun h => ?_) | refine aw_block ?_ | refine aw_skip ?_ | refine aw_ret ?_ | refine q_ret ?_ | refine q_blockN ?_ | refine q_blockR ?_ | refine aw_exit ?_ | refine q_exit ?_ | refine q_blockE ?_ | refine q_blockX de_ ?_ | refine fin_r rfl ?_ | (refine w_req rfl ?_ ?_; · exact rq_) | (refine w_lk rfl ?_; refine ⟨_, lk_D4, ?_⟩) | refine w_look (l' := _ :: _) rfl rfl ?_ | refine w_look (l' := []) rfl rfl ?_ | refine w_req rfl ?_ ?_ | refine w_pick rfl (fun b => ?_) | refine l_call rfl (c1) ?_ | refine l_call rfl (c2) ?_ | refine l_call rfl (c3) ?_ | refine l_call rfl (c4) ?_ | refine l_call rfl (c5) ?_ | refine aw_drw kr_ ?_ | refine d_cons ?_ | refine l_ok rfl ?_ | refine d_nil kr_ ?_ | refine d_y rfl ka ?_ | refine d_nT rfl ka ?_ | refine d_nF rfl ka ?_ | refine d_nU rfl ?_ | refine l_pT rfl ka rfl ?_ | refine l_pF rfl ka rfl ?_ | refine d_gT rfl (fun h => ?_) (fun h => ?_) | refine d_gF rfl (fun h => ?_) (fun h => ?_) | (refine l_req rfl ?_ ?_; · exact rq_) | (refine l_lk rfl ?_; refine ⟨_, lk_D4, ?_⟩) | refine l_look (l' := _ :: _) rfl rfl ?_ | refine l_look (l' := []) rfl rfl ?_ | refine l_req rfl ?_ ?_)
  any_goals
    rename_i h0 h1
    refine ⟨i + 1, ⟨by (exact side_), by (exact side_)⟩, ?_⟩
    rw [e1]
    simp only [dkStep]
    first
      | (simp only [if_pos (show bwX l (bwC l (rdC l s.c) 5) 6 = 0 by simpa using h1)])
      | (simp only [if_neg (show ¬ bwX l (bwC l (rdC l s.c) 5) 6 = 0 by simpa using h1)])
    first
      | (simp only [if_pos (show bwX l (bwC l (bwC l (rdC l s.c) 5) 6) 2 = 0 by simpa using h)])
      | (simp only [if_neg (show ¬ bwX l (bwC l (bwC l (rdC l s.c) 5) 6) 2 = 0 by simpa using h)])
    (refine le_of [(0, 0), (3000, 3000), (4000, 4000), (7000, 7000), (7001, 7001)] ?_; repeat' (first | exact trivial | refine an ?_ ?_ | with_reducible rfl | exact bt rfl | exact Or.inl rfl | exact Or.inr rfl | exact Eq.refl _))
    all_goals first | (first | omega | (simp; done) | (rw [wrap64] <;> omega) | (simp; omega)) | (simp only [List.length_set]; done)
  · have : i = 5 := by (exact side_)
    subst this
    rw [hse]
theorem drawScanRecs (l : List UInt8) {m : Nat} (hm : m = l.length) (hl : l.length ≤ 4294967296) : ∃ a b : List ByteArray, (a.length = 5 ∧ b.length = 5 ∧ (∀ x ∈ a, x.size ≤ 64) ∧ ∀ x ∈ b, x.size ≤ 64) ∧ AGood e.P 41 [.ro (.row 1 m (bT l))] (dkT a b) [.keep] := by
  subst hm
  have hok : Cur.ok ⟨0, newH l⟩ l := ⟨Int.le_refl _, by simp⟩
  have hg := dkGo_good hok 5
  have c1 := l13Disk l rfl ⟨0, newH l⟩ hok hl
  refine ⟨_, _, hg.2, ?_⟩
  refine agood eok (fn := Try.f41) kr_ de_ rfl kr_ ok_D4 ok_D4 ?_
  repeat' (first | refine o_cons ?_ | refine w_ok rfl ?_ | refine w_call rfl (l1New l rfl hl) ?_ | refine w_call rfl (c1) ?_ | refine o_nil ?_ | refine q_then ?_ | refine sq ?_ | refine aw_seq ?_ | refine aw_reg ?_ | refine w_pT rfl ka rfl ?_ | refine w_pF rfl ka rfl ?_ | refine o_y rfl ka ?_ | refine o_nT rfl ka ?_ | refine o_nF rfl ka ?_ | refine o_nU rfl ?_ | refine aw_cT rfl ka ?_ | refine aw_cF rfl ka ?_ | refine o_gT rfl (fun h => ?_) (fun h => ?_) | refine o_gF rfl (fun h => ?_) (fun h => ?_) | refine aw_cond rfl (fun h => ?_) (fun h => ?_) | refine aw_block ?_ | refine aw_skip ?_ | refine aw_ret ?_ | refine q_ret ?_ | refine q_blockN ?_ | refine q_blockR ?_ | refine aw_exit ?_ | refine q_exit ?_ | refine q_blockE ?_ | refine q_blockX de_ ?_ | refine fin_r rfl ?_ | (refine w_req rfl ?_ ?_; · exact rq_) | (refine w_lk rfl ?_; refine ⟨_, lk_D4, ?_⟩) | refine w_look (l' := _ :: _) rfl rfl ?_ | refine w_look (l' := []) rfl rfl ?_ | refine w_req rfl ?_ ?_ | refine w_pick rfl (fun b => ?_))
  rfl
end Go.Proofs.Ytbkpmljdmlhmhaa
