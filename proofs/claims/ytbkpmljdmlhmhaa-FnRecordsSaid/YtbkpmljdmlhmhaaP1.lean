import Derived.Test.YtbkpmljdmlhmhaaL1
namespace Go.Proofs.Ytbkpmljdmlhmhaa
open Go Go.AM Ty
set_option maxRecDepth 100000
set_option maxHeartbeats 4000000
set_option linter.unusedVariables false
set_option linter.unusedSimpArgs false
attribute [local irreducible] aw aops aopsD wpo wpoL condW guardW thenQ blockQ finQ Le AGood
theorem bigV_big (n : Nat) : ∀ k : Nat, bigV (bigM n k) = n % 256 ^ k := by
  have app : ∀ (l m : List UInt8) (v : Nat), (l ++ m).foldl (fun n b => n * 256 + b.toNat) v = m.foldl (fun n b => n * 256 + b.toNat) (l.foldl (fun n b => n * 256 + b.toNat) v) := fun l m v => List.foldl_append
  have gen : ∀ (k : Nat) (v : Nat), (bigM n k).foldl (fun n b => n * 256 + b.toNat) v = v * 256 ^ k + n % 256 ^ k := by
    intro k
    induction k with
    | zero => intro v; simp [bigM, Nat.mod_one]
    | succ k ih =>
      intro v
      unfold bigM
      rw [List.foldl_cons, ih]
      have e : (UInt8.ofNat (n / 256 ^ k)).toNat = n / 256 ^ k % 256 := by simp
      rw [e, Nat.pow_succ, Nat.mod_mul, Nat.add_mul, Nat.mul_assoc, Nat.mul_comm 256 (256 ^ k), Nat.mul_comm (n / 256 ^ k % 256)]
      omega
  intro k
  have := gen k 0
  unfold bigV
  rw [this]
  simp
theorem getV_app {p q t : List UInt8} {at_ k : Nat} (hk : 1 ≤ k ∧ k ≤ 7) (hp : p.length = at_) (hq : q.length = k) : getOk ((p ++ (q ++ t)).length : Nat) at_ k = true ∧ getV (p ++ (q ++ t)) at_ k = bigV q := by
  have h : getOk ((p ++ (q ++ t)).length : Nat) at_ k = true := by
    unfold getOk
    simp only [List.length_append, Bool.and_eq_true, decide_eq_true_eq]
    omega
  refine ⟨h, ?_⟩
  unfold getV
  rw [h]
  simp only [Int.toNat_natCast, if_true]
  rw [List.drop_left' hp, List.take_left' hq]
theorem ub_small {n : Nat} (h : n < 256) : bigV [ub (n : Int)] = n := by
  unfold bigV
  rw [ub_nat]
  simp
  omega
/-- what is put comes back, whatever stands behind it -/
theorem parse_put {r : Rc} (hok : recOkM r = true) (t : List UInt8) : parse (putQ r ++ t) = some r := by
  obtain ⟨h1, h2, h3, h4, h5, h6⟩ := recOk_nat hok
  have hs : (1 ≤ (r.s.size : Int)) ∧ ((r.s.size : Int) ≤ 8) := by
    unfold idOkM at h5
    simp only [Bool.and_eq_true, decide_eq_true_eq] at h5
    exact h5.2
  obtain ⟨a, b, k, s, n, d⟩ := r
  simp only at h1 h2 h3 h4 h5 h6 hs
  obtain ⟨a, rfl⟩ := Int.eq_ofNat_of_zero_le h1.1
  obtain ⟨b, rfl⟩ := Int.eq_ofNat_of_zero_le h2.1
  obtain ⟨k, rfl⟩ := Int.eq_ofNat_of_zero_le (by omega : 0 ≤ k)
  obtain ⟨n, rfl⟩ := Int.eq_ofNat_of_zero_le h4.1
  have hl : s.data.toList.length = s.size := (sz_len s).symm
  obtain ⟨l, hL⟩ : ∃ l, l = putQ ⟨(a : Int), (b : Int), (k : Int), s, (n : Int), d⟩ ++ t := ⟨_, rfl⟩
  have e1 : l = [] ++ (bigM a 3 ++ (bigM b 2 ++ ([ub k] ++ ([ub s.size] ++ (s.data.toList ++ (bigM n 4 ++ ([ub d.length] ++ (d ++ t)))))))) := by rw [hL]; simp [putQ]
  have e2 : l = bigM a 3 ++ (bigM b 2 ++ ([ub k] ++ ([ub s.size] ++ (s.data.toList ++ (bigM n 4 ++ ([ub d.length] ++ (d ++ t))))))) := by rw [hL]; simp [putQ]
  have e3 : l = (bigM a 3 ++ bigM b 2) ++ ([ub k] ++ ([ub s.size] ++ (s.data.toList ++ (bigM n 4 ++ ([ub d.length] ++ (d ++ t)))))) := by rw [hL]; simp [putQ]
  have e4 : l = (bigM a 3 ++ bigM b 2 ++ [ub k]) ++ ([ub s.size] ++ (s.data.toList ++ (bigM n 4 ++ ([ub d.length] ++ (d ++ t))))) := by rw [hL]; simp [putQ]
  have e5 : l = (bigM a 3 ++ bigM b 2 ++ [ub k] ++ [ub s.size]) ++ (s.data.toList ++ (bigM n 4 ++ ([ub d.length] ++ (d ++ t)))) := by rw [hL]; simp [putQ]
  have e6 : l = (bigM a 3 ++ bigM b 2 ++ [ub k] ++ [ub s.size] ++ s.data.toList) ++ (bigM n 4 ++ ([ub d.length] ++ (d ++ t))) := by rw [hL]; simp [putQ]
  have e7 : l = (bigM a 3 ++ bigM b 2 ++ [ub k] ++ [ub s.size] ++ s.data.toList ++ bigM n 4) ++ ([ub d.length] ++ (d ++ t)) := by rw [hL]; simp [putQ]
  have e8 : l = (bigM a 3 ++ bigM b 2 ++ [ub k] ++ [ub s.size] ++ s.data.toList ++ bigM n 4 ++ [ub d.length]) ++ (d ++ t) := by rw [hL]; simp [putQ]
  have g1 := getV_app (p := []) (q := bigM a 3) (t := bigM b 2 ++ ([ub k] ++ ([ub s.size] ++ (s.data.toList ++ (bigM n 4 ++ ([ub d.length] ++ (d ++ t))))))) (at_ := 0) (k := 3) (by decide) rfl (bigM_len _ _)
  rw [← e1, bigV_big] at g1
  have g2 := getV_app (p := bigM a 3) (q := bigM b 2) (t := [ub k] ++ ([ub s.size] ++ (s.data.toList ++ (bigM n 4 ++ ([ub d.length] ++ (d ++ t)))))) (at_ := 3) (k := 2) (by decide) (bigM_len _ _) (bigM_len _ _)
  rw [← e2, bigV_big] at g2
  have g3 := getV_app (p := bigM a 3 ++ bigM b 2) (q := [ub k]) (t := [ub s.size] ++ (s.data.toList ++ (bigM n 4 ++ ([ub d.length] ++ (d ++ t))))) (at_ := 5) (k := 1) (by decide) (by simp) rfl
  rw [← e3, ub_small (by omega)] at g3
  have g4 := getV_app (p := bigM a 3 ++ bigM b 2 ++ [ub k]) (q := [ub s.size]) (t := s.data.toList ++ (bigM n 4 ++ ([ub d.length] ++ (d ++ t)))) (at_ := 6) (k := 1) (by decide) (by simp) rfl
  rw [← e4, ub_small (by omega)] at g4
  have g5 := getV_app (p := bigM a 3 ++ bigM b 2 ++ [ub k] ++ [ub s.size] ++ s.data.toList) (q := bigM n 4) (t := [ub d.length] ++ (d ++ t)) (at_ := 7 + s.size) (k := 4) (by decide) (by simp [hl]; omega) (bigM_len _ _)
  rw [← e6, bigV_big] at g5
  have g6 := getV_app (p := bigM a 3 ++ bigM b 2 ++ [ub k] ++ [ub s.size] ++ s.data.toList ++ bigM n 4) (q := [ub d.length]) (t := d ++ t) (at_ := 11 + s.size) (k := 1) (by decide) (by simp [hl]; omega) rfl
  rw [← e7, ub_small (by omega)] at g6
  have hlen : l.length = 12 + s.size + d.length + t.length := by rw [e8]; simp [hl]; omega
  have t1 : (l.drop 7).take s.size = s.data.toList := by
    rw [e5, List.drop_left' (by simp), List.take_left' hl]
  have t2 : (l.drop (12 + s.size)).take d.length = d := by
    rw [e8, List.drop_left' (by simp [hl]; omega), List.take_left' rfl]
  rw [← hL]
  unfold parse
  have c4 : getV l 6 1 = (s.size : Int) := g4.2
  have c6 : getV l (11 + (s.size : Int)) 1 = (d.length : Int) := by have := g6.2; simpa using this
  have c5 : getV l (7 + (s.size : Int)) 4 = (n : Int) := by have := g5.2; rw [Nat.mod_eq_of_lt (by omega)] at this; simpa using this
  rw [c4, c6, if_pos, c5]
  · have z1 : getV l 0 3 = (a : Int) := by have := g1.2; rw [Nat.mod_eq_of_lt (by omega)] at this; simpa using this
    have z2 : getV l 3 2 = (b : Int) := by have := g2.2; rw [Nat.mod_eq_of_lt (by omega)] at this; simpa using this
    have z3 : getV l 5 1 = (k : Int) := by have := g3.2; simpa using this
    rw [z1, z2, z3, show ((12 : Int) + (s.size : Int)).toNat = 12 + s.size by omega, Int.toNat_natCast, Int.toNat_natCast, t1, t2]
  · simp only [Bool.and_eq_true, decide_eq_true_eq]
    refine ⟨⟨⟨⟨⟨⟨⟨g1.1, g2.1⟩, g3.1⟩, g4.1⟩, by omega⟩, ?_⟩, ?_⟩, by omega⟩
    · have := g5.1; simpa using this
    · have := g6.1; simpa using this
end Go.Proofs.Ytbkpmljdmlhmhaa
