import Derived.Test.YtbkpmljdmlhmhaaME
import Derived.Test.YtbkpmljdmlhmhaaX1
import Derived.WalkKit
import Derived.OwnWalk
import Derived.Lib.Hide
import Derived.Lib.AppendZeros
import Derived.Deep.RegionLaw
namespace Go.Proofs.Ytbkpmljdmlhmhaa
open Go Go.AM Ty
set_option maxHeartbeats 8000000
set_option maxRecDepth 100000
set_option linter.unusedVariables false
set_option linter.unusedSimpArgs false
section
variable {P : Program}
theorem wp_copy_at (w : World) {o : Oper} {a : Act} {K : Act → World → Prop} {Q : Exit → Act → World → Prop} (d s : Operand) (t t' : TypeId)
    (ho : o.op = .call { callee := .builtin .copy, args := #[d, s], argTypes := #[t, t'] }) (v u : Value) (hd : a.eval d = v) (hs : a.eval s = u) {v' : Value} {w' : World}
    (hr : (Builtin.copy_ #[t, t'] o.type #[v, u]).run P w = .ok v' w') (h : K (a.put o.dst v') w') : o.wp P a w K Q := by
  unfold Oper.wp execOp
  simp only [ho, resolve, invoke, builtin, Sem.run_bind, Sem.run_pure, Result.andThen_ok, List.map_toArray, List.map_cons, List.map_nil, hd, hs, hr]
  exact h
theorem wpList_copy_at (w : World) {ops : Array Oper} {rest : List Oper} {o : Oper} {a : Act} {Q : Exit → Act → World → Prop} (hgd : o.guard = none) (d s : Operand) (t t' : TypeId)
    (ho : o.op = .call { callee := .builtin .copy, args := #[d, s], argTypes := #[t, t'] }) (v u : Value) (hd : a.eval d = v) (hs : a.eval s = u) {v' : Value} {w' : World}
    (hr : (Builtin.copy_ #[t, t'] o.type #[v, u]).run P w = .ok v' w') (h : wpList P ops Q rest (a.put o.dst v') w') : wpList P ops Q (o :: rest) a w :=
  wpList_plain hgd fun _ hK => wp_copy_at w d s t t' ho v u hd hs hr (hK _ _ h)
theorem step_copy_at {ops : Array Oper} {o : Oper} {a : Act} {w : World} {K : Act → World → Prop} {Q : Exit → Act → World → Prop} {E : Prop}
    (hg : o.guard = none) (d x : Operand) (dT sT : TypeId) (hop : o.op = Op.call { callee := Callee.builtin Builtin.copy, args := #[d, x], argTypes := #[dT, sT] })
    (v u : Value) (hd : a.eval d = v) (hx : a.eval x = u) {v' : Value} {w' : World} (hr : (Builtin.copy_ #[dT, sT] o.type #[v, u]).run P w = .ok v' w') (hK : K (a.put o.dst v') w') :
    if Region.wanted o (yielded ops a.tmps) = true then Oper.wp P o a w K Q else E := by
  have hw : Region.wanted o (yielded ops a.tmps) = true := by simp [Region.wanted, hg]
  rw [if_pos hw]
  exact wp_copy_at w d x dT sT hop v u hd hx hr hK
theorem step_append_at {ops : Array Oper} {o : Oper} {a : Act} {w : World} {K : Act → World → Prop} {Q : Exit → Act → World → Prop} {E : Prop}
    (hg : o.guard = none) (d x : Operand) (dT sT : TypeId) (hop : o.op = Op.call { callee := Callee.builtin Builtin.append, args := #[d, x], argTypes := #[dT, sT] })
    (v u : Value) (hd : a.eval d = v) (hx : a.eval x = u) {v' : Value} {w' : World} (hr : (Builtin.append_ #[dT, sT] o.type #[v, u]).run P w = .ok v' w') (hK : K (a.put o.dst v') w') :
    if Region.wanted o (yielded ops a.tmps) = true then Oper.wp P o a w K Q else E := by
  have hw : Region.wanted o (yielded ops a.tmps) = true := by simp [Region.wanted, hg]
  rw [if_pos hw]
  unfold Oper.wp execOp
  simp only [hop, resolve, invoke, builtin, Sem.run_bind, Sem.run_pure, Result.andThen_ok, List.map_toArray, List.map_cons, List.map_nil, hd, hx, hr]
  exact hK
end
theorem frz {w : World} {b e : Nat} {cur : Array Value} {fr : Nat × Nat} (h : w.heap[b]? = some (.cells cur e fr)) (hf : unfr fr cur.size 4) (o : Nat) : w.frozen? ⟨b, o, none⟩ = false := by
  unfold World.frozen?
  simp only [h]
  simp only [Bool.and_eq_false_iff, decide_eq_false_iff_not]
  rcases hf with h1 | h1
  · omega
  · exact absurd h1.1 (by decide)
theorem insRoom {w : World} {g n c i g2 c2 e1 e2 : Nat} {fr fr2 : Nat × Nat} {cur cv : Array Value}
    (hh : w.heap[g]? = some (.cells cur e1 fr)) (hfr : unfr fr cur.size 4) (hcs : cur.size = c * 4) (h1 : ∀ u, u ∈ cur.toList.take (n * 4) → u.oneCell' = true)
    (hh2 : w.heap[g2]? = some (.cells cv e2 fr2)) (hfr2 : unfr fr2 cv.size 4) (hcs2 : cv.size = c2 * 4) (hc2 : 1 ≤ c2) (h12 : ∀ u, u ∈ cv.toList.take (1 * 4) → u.oneCell' = true) (hne : g2 ≠ g) (hi : i < n) (hroom : n + 1 ≤ c) (hcm : c ≤ 9223372036854775807) :
    Calls Try.prog 133 #[.slice (some ⟨g, 0, none⟩) n c, .int .i64 (i : Int), .slice (some ⟨g2, 0, none⟩) 1 c2] w fun e w' => ∃ cur2, e = .returned (.slice (some ⟨g, 0, none⟩) (n + 1) c) ∧
      w'.heap[g]? = some (.cells cur2 e1 fr) ∧ cur2.size = cur.size ∧ cur2.toList.take ((n + 1) * 4) = (cur.toList.take (n * 4)).take (i * 4) ++ (cv.toList.take (1 * 4) ++ (cur.toList.take (n * 4)).drop (i * 4)) ∧ Only w w' g := by
  obtain ⟨W1, W2, cur2, hc1, hc2', hR⟩ := ins_room (P := Try.prog) (t := 54) (sz := 4) (W := w.drew) Try.underlying54 (by kernel_rfl) hh hfr hcs h1 hh2 hcs2 hc2 h12 hne hi hroom
  have hov : ∀ lb cb, (callFunc 144 #[.slice (some ⟨g2, 0, none⟩) 1 c2, .slice (some ⟨g, (i + 1) * 4, none⟩) lb cb]).run Try.prog w = .ok (.value (.bool false)) w := fun lb cb => by
    rw [run_callFunc_extern Try.func144 (by kernel_rfl) (by kernel_rfl) (by kernel_rfl) (e := Extern.SlicesOverlaps.overlaps #[54, 54] #[4]) (by kernel_rfl),
      Lib.run_overlaps_apart w 54 4 51 Try.underlying54 4 Try.sizeOf51 ⟨g2, 0, none⟩ ⟨g, (i + 1) * 4, none⟩ 1 c2 lb cb hne e2 e1 cv.size cur.size (by simp [World.shape?, hh2]) (by simp [World.shape?, hh]) (by omega) (frz hh2 hfr2 _) (frz hh2 hfr2 _)]
    rfl
  have HC1 := Lib.hid hc1
  have HC2 := Lib.hid hc2'
  have HR := Lib.hid hR
  have hz2 : ¬ ((i : Int) = (n : Int)) := by omega
  have hz3 : ¬ ((c : Int) < (n : Int) + 1) := by omega
  have hb1 : (0 : Int) ≤ (i : Int) + 1 := by omega
  have hb3 : (i : Int) ≤ (n : Int) := by omega
  have hb5 : (n : Int) + 1 ≤ (c : Int) := by omega
  have hb6 : (i : Int) ≤ (n : Int) + 1 := by omega
  have hb2 : ¬ (c = i + 1) := by omega
  have hb4 : ¬ (c = i) := by omega
  have hw1 : IntKind.i64.wrap ((i : Int) + 1) = (i : Int) + 1 := by rw [IntKind.wrap_i64]; omega
  have htn : ((i : Int) + 1).toNat = i + 1 := by omega
  have hc63 : (c : Int) ≤ 9223372036854775807 := by omega
  clear hc1 hc2' hR hfr hcs h1 hfr2 hcs2 hc2 h12 hne hcm hh hh2
  go_enter Try.func133, Try.ntmps133
  go_wp2_with (simp only [hov])
  go_region_law (refine step_copy_at rfl (.tmp 73) (.tmp 76) 54 54 rfl (.slice (some ⟨g, (i + 1) * 4, none⟩) (n - i) (c - (i + 1))) (.slice (some ⟨g, i * 4, none⟩) (n + 1 - i) (c - i)) (by simp [Act.eval, Act.put]) (by simp [Act.eval, Act.put]) (HC1.out _ _ _) ?_)
  go_wp2_with (with_reducible refine wpList_copy_at _ rfl (.tmp 80) (.tmp 81) 54 54 rfl (.slice (some ⟨g, i * 4, none⟩) (n + 1 - i) (c - i)) (.slice (some ⟨g2, 0, none⟩) 1 c2) (by simp [Act.eval]) (by simp [Act.eval]) (HC2.out _ _ _) ?_)
  go_ret
  exact ⟨cur2, rfl, HR.out⟩
theorem insGrow {w : World} {g n c i g2 c2 e1 e2 : Nat} {fr fr2 : Nat × Nat} {cur cv : Array Value}
    (hh : w.heap[g]? = some (.cells cur e1 fr)) (hcs : cur.size = c * 4) (hnc : n ≤ c) (h1 : ∀ u, u ∈ cur.toList.take (n * 4) → u.oneCell' = true)
    (hh2 : w.heap[g2]? = some (.cells cv e2 fr2)) (hcs2 : cv.size = c2 * 4) (hc2 : 1 ≤ c2) (h12 : ∀ u, u ∈ cv.toList.take (1 * 4) → u.oneCell' = true) (hi : i < n) (hroom : c < n + 1) (hl : (n + 1) * 56 ≤ 140737488355328) :
    Calls Try.prog 133 #[.slice (some ⟨g, 0, none⟩) n c, .int .i64 (i : Int), .slice (some ⟨g2, 0, none⟩) 1 c2] w fun e w' => ∃ G cur2, e = .returned (.slice (some ⟨w.heap.size, 0, none⟩) (n + 1) G) ∧ n + 1 ≤ G ∧ G ≤ maxL ∧
      w'.heap[w.heap.size]? = some (.cells cur2 51 (0, 0)) ∧ cur2.size = G * 4 ∧ cur2.toList.take ((n + 1) * 4) = (cur.toList.take (n * 4)).take (i * 4) ++ (cv.toList.take (1 * 4) ++ (cur.toList.take (n * 4)).drop (i * 4)) ∧ Only w w' g := by
  obtain ⟨ei, hei, he⟩ : ∃ ei, AM.elemOf τ 54 = some ei ∧ ei.size = 4 ∧ ei.bytes = 56 := ⟨_, rfl, rfl, rfl⟩
  obtain ⟨e, hu, heo⟩ := elemOf_ok Ty.ok hei
  have hue : e = 51 := by have := hu.symm.trans Try.underlying54; injection this with this; injection this
  subst hue
  have := ins_grow (P := Try.prog) (t := 54) (ti := 3) (W := w) hu heo Try.underlying3 (by omega) (by omega) hh (by rw [he.1]; exact hcs) hnc (by rw [he.1]; exact h1) hh2 (by rw [he.1]; exact hcs2) hc2 (by rw [he.1]; exact h12) hi hroom (by rw [he.2]; exact hl)
  rw [he.1] at this
  obtain ⟨G, W1, W2, W3, cur2, hG1, hG2, hc0, hc1, hc2', hR⟩ := this
  have HR := Lib.hid hR
  obtain ⟨N, hN⟩ : ∃ N, N = w.heap.size := ⟨_, rfl⟩
  have hc0' : ∀ ty, (Builtin.append_ #[54, 3] ty #[.slice (some ⟨g, 0, none⟩) i c, .int .i64 ((n : Int) + 1 - (i : Int))]).run Try.prog w = .ok (.slice (some ⟨N, 0, none⟩) (n + 1) G) W1 := fun ty => by
    have h := hc0 ty
    rw [hN, show (n : Int) + 1 - (i : Int) = ((n + 1 - i : Nat) : Int) by omega]
    exact h
  have hc1' : ∀ ty dc sc, (Builtin.copy_ #[54, 54] ty #[.slice (some ⟨N, i * 4, none⟩) (n + 1 - i) dc, .slice (some ⟨g2, 0, none⟩) 1 sc]).run Try.prog W1 = .ok (goInt ((1 : Nat) : Int)) W2 := fun ty dc sc => by rw [hN]; exact hc1 ty dc sc
  have hc2'' : ∀ ty dc sc, (Builtin.copy_ #[54, 54] ty #[.slice (some ⟨N, (i + 1) * 4, none⟩) (n - i) dc, .slice (some ⟨g, i * 4, none⟩) (n - i) sc]).run Try.prog W2.drew = .ok (goInt ((n - i : Nat) : Int)) W3 := fun ty dc sc => by rw [hN]; exact hc2' ty dc sc
  have HC0 := Lib.hid hc0'
  have HC1 := Lib.hid hc1'
  have HC2 := Lib.hid hc2''
  have hz2 : ¬ ((i : Int) = (n : Int)) := by omega
  have hz3 : (c : Int) < (n : Int) + 1 := by omega
  have hb1 : (0 : Int) ≤ (i : Int) + 1 := by omega
  have hb3 : (i : Int) ≤ (n : Int) := by omega
  have hb3c : (i : Int) ≤ (c : Int) := by omega
  have hb6 : (i : Int) ≤ (n : Int) + 1 := by omega
  have hb2 : ¬ (G = i + 1) := by omega
  have hb4 : ¬ (c = i) := by omega
  have hb5 : ¬ (G = i) := by omega
  have hG63 : (G : Int) ≤ 9223372036854775807 := by unfold maxL at hG2; omega
  have hw1 : IntKind.i64.wrap ((i : Int) + 1) = (i : Int) + 1 := by rw [IntKind.wrap_i64]; omega
  have htn : ((i : Int) + 1).toNat = i + 1 := by omega
  have hc63 : (c : Int) ≤ 9223372036854775807 := by omega
  have HNI := Lib.hid hN
  have HGG := Lib.hid (And.intro hG1 hG2)
  clear hc0 hc1 hc2' hc0' hc1' hc2'' hR hN hG2 he hei heo hu
  clear hcs h1 hcs2 h12 hh hh2
  go_enter Try.func133, Try.ntmps133
  go_wp2_with (first | (at_builtin; refine Lib.wpList_append_run _ rfl (.tmp 34) (.tmp 39) 54 3 rfl (.slice (some ⟨g, 0, none⟩) i c) (.int .i64 ((n : Int) + 1 - (i : Int))) (by simp [Act.eval]) (by simp [Act.eval]) _ _ (HC0.out _) ?_) | (with_reducible refine wpList_copy_at _ rfl (.tmp 43) (.tmp 44) 54 54 rfl (.slice (some ⟨N, i * 4, none⟩) (n + 1 - i) (G - i)) (.slice (some ⟨g2, 0, none⟩) 1 c2) (by simp [Act.eval]) (by simp [Act.eval]) (HC1.out _ _ _) ?_))
  go_region_law (refine step_copy_at rfl (.tmp 50) (.tmp 53) 54 54 rfl (.slice (some ⟨N, (i + 1) * 4, none⟩) (n - i) (G - (i + 1))) (.slice (some ⟨g, i * 4, none⟩) (n - i) (c - i)) (by simp [Act.eval, Act.put]) (by simp [Act.eval, Act.put]) (HC2.out _ _ _) ?_)
  go_wp2
  go_ret
  exact ⟨G, cur2, by rw [HNI.out]; rfl, HGG.out.1, HGG.out.2, HR.out⟩
theorem insEnd {w w1 : World} {B : Option Addr} {n c g2 c2 : Nat} {v1 : Value} (hnc : n ≤ c) (hcm : c ≤ 9223372036854775807) (hn : B = none → c = 0) (hrun : (Builtin.append_ #[54, 54] 54 #[.slice B n c, .slice (some ⟨g2, 0, none⟩) 1 c2]).run Try.prog w = .ok v1 w1) :
    Calls Try.prog 133 #[.slice B n c, .int .i64 (n : Int), .slice (some ⟨g2, 0, none⟩) 1 c2] w fun e w' => e = .returned v1 ∧ w' = w1 := by
  have HC0 := Lib.hid hrun
  have hn63 : (n : Int) ≤ 9223372036854775807 := by omega
  have hc63 : (c : Int) ≤ 9223372036854775807 := by omega
  clear hrun hcm
  cases B with
  | none =>
    obtain rfl := hn rfl
    obtain rfl : n = 0 := by omega
    clear hn hnc
    go_enter Try.func133, Try.ntmps133
    go_wp2_with (at_builtin; refine Lib.wpList_append_run _ rfl (.tmp 23) (.tmp 24) 54 54 rfl (.slice none 0 0) (.slice (some ⟨g2, 0, none⟩) 1 c2) (by simp [Act.eval]) (by simp [Act.eval]) _ _ HC0.out ?_)
    go_ret
    exact ⟨rfl, rfl⟩
  | some a =>
    clear hn
    go_enter Try.func133, Try.ntmps133
    go_wp2_with (at_builtin; refine Lib.wpList_append_run _ rfl (.tmp 23) (.tmp 24) 54 54 rfl (.slice (some a) n c) (.slice (some ⟨g2, 0, none⟩) 1 c2) (by simp [Act.eval]) (by simp [Act.eval]) _ _ HC0.out ?_)
    all_goals
      go_ret
      exact ⟨rfl, rfl⟩
theorem delRun {w : World} {g c k m e1 : Nat} {fr : Nat × Nat} {cur : Array Value} (hh : w.heap[g]? = some (.cells cur e1 fr)) (hfr : unfr fr cur.size 4) (hcs : cur.size = c * 4) (hk : k ≤ m) (hmc1 : m + 1 ≤ c) (hcm : c ≤ 9223372036854775807)
    (h1 : ∀ u, u ∈ cur.toList.take ((m + 1) * 4) → u.oneCell' = true) :
    Calls Try.prog 134 #[.slice (some ⟨g, 0, none⟩) (m + 1) c, .int .i64 (k : Int), .int .i64 ((k : Int) + 1)] w fun e w' => ∃ cur2, e = .returned (.slice (some ⟨g, 0, none⟩) m c) ∧
      w'.heap[g]? = some (.cells cur2 e1 fr) ∧ cur2.size = cur.size ∧ cur2.toList.take (m * 4) = (cur.toList.take ((m + 1) * 4)).take (k * 4) ++ (cur.toList.take ((m + 1) * 4)).drop ((k + 1) * 4) ∧ Only w w' g := by
  obtain ⟨ei, hei, he⟩ : ∃ ei, AM.elemOf τ 54 = some ei ∧ ei.size = 4 ∧ ei.bytes = 56 := ⟨_, rfl, rfl, rfl⟩
  obtain ⟨e, hu, heo⟩ := elemOf_ok Ty.ok hei
  obtain ⟨q, hq⟩ : ∃ q, q = m + 1 - (k + 1) := ⟨_, rfl⟩
  have hkq : k + 1 + q = m + 1 := by omega
  have hkq2 : k + q = m := by omega
  obtain ⟨A, hA⟩ : ∃ A, A = (if c = k + 1 then some (⟨g, 0, none⟩ : Addr) else some ⟨g, (k + 1) * 4, none⟩) := ⟨_, rfl⟩
  have happ : ∃ W1 cur1, (∀ ty, (Builtin.append_ #[54, 54] ty #[.slice (some ⟨g, 0, none⟩) k c, .slice A q (c - (k + 1))]).run Try.prog w.drew = .ok (.slice (some ⟨g, 0, none⟩) m c) W1) ∧ W1.heap[g]? = some (.cells cur1 e1 fr) ∧ cur1.size = cur.size ∧
      cur1.toList.take (m * 4) = (cur.toList.take ((m + 1) * 4)).take (k * 4) ++ (cur.toList.take ((m + 1) * 4)).drop ((k + 1) * 4) ∧ Only w.drew W1 g := by
    have h := fun ty => del_app (P := Try.prog) (W := w.drew) (i := k) (j := k + 1) (k := q) hu heo hh (by rw [he.1]; exact hfr) (by rw [he.1]; exact hcs) (Nat.le_succ k) (by omega) A (fun h0 => by rw [hA, if_neg (by omega), he.1]) (by rw [he.1, hkq]; exact h1) (c - (k + 1)) ty
    rw [he.1, hkq, hkq2] at h
    obtain ⟨W1, cur1, r1, r2, r3, r4, r5⟩ := h 0
    refine ⟨W1, cur1, fun ty => ?_, r2, r3, r4, r5⟩
    obtain ⟨W1', cur1', r1', _⟩ := h ty
    exact r1
  obtain ⟨W1, cur1, happ, hh1, hs1, ht1, ho1⟩ := happ
  have hclr := clear_tail (P := Try.prog) (W := W1) (n := m) (m := 1) (c := c) hu heo hh1 (by rw [he.1, hs1]; exact hfr) (by rw [he.1, hs1]; exact hcs) Nat.one_pos hmc1 (c - m) 0
  rw [he.1] at hclr
  obtain ⟨W2, cur2, hcl, hh2, hs2, ht2, ho2⟩ := hclr
  have HR : RowKit.Hid (W2.heap[g]? = some (.cells cur2 e1 fr) ∧ cur2.size = cur.size ∧ cur2.toList.take (m * 4) = (cur.toList.take ((m + 1) * 4)).take (k * 4) ++ (cur.toList.take ((m + 1) * 4)).drop ((k + 1) * 4) ∧ Only w W2 g) :=
    Lib.hid ⟨hh2, hs2.trans hs1, ht2.trans ht1, ho2.1.trans ho1.1, ho2.2.1.trans ho1.2.1, ho2.2.2.1.trans ho1.2.2.1, Nat.le_trans ho1.2.2.2.1 ho2.2.2.2.1, fun j hj hjg => (ho2.2.2.2.2 j (Nat.lt_of_lt_of_le hj ho1.2.2.2.1) hjg).trans (ho1.2.2.2.2 j hj hjg)⟩
  have HC := Lib.hid happ
  have HA := Lib.hid hA
  have HQ := Lib.hid hq
  have hkc : k ≤ c := by omega
  have hk1 : k + 1 ≤ c := by omega
  have hk3 : (k : Int) ≤ (m : Int) := by omega
  have hk4 : 0 ≤ (k : Int) + 1 := by omega
  have hmc : m ≤ c := by omega
  have hmn : ¬ (c = m) := by omega
  clear happ hh1 hs1 ht1 ho1 hh2 hs2 ht2 ho2 hh hfr hcs h1 he heo hei hu hq hkq hkq2 hA
  go_enter Try.func134, Try.ntmps134
  go_wp2_with fail
  go_region_law (refine step_append_at rfl (.tmp 22) (.tmp 25) 54 54 rfl (.slice (some ⟨g, 0, none⟩) k c) (.slice A q (c - (k + 1))) (by simp [Act.eval, Act.put]) (by rw [HA.out, HQ.out]; simp [Act.eval, Act.put]) (HC.out _) ?_)
  go_wp2_with fail
  all_goals
    try (subst h)
    go_ret
    first | exact ⟨cur2, rfl, HR.out⟩ | exact ⟨rfl, cur2, HR.out⟩
theorem callF_of {P : Program} {f : Nat} {fn : Func} {body : Code} {args : Array Value} {w : World} {R : Ending → World → Prop} (hf : P.funcs[f]? = some fn) (hname : (fn.name == "runtime.NumGoroutine") = false) (hb : fn.body = some body) (h : Calls P f args w R) : CallF P f args w R := by
  have henter : (callFunc f args).run P w = .ok (.enter f args) w := by
    have hname' : ¬ fn.name = "runtime.NumGoroutine" := by simpa using hname
    simp [callFunc, hf, hname', hb]
  unfold CallF
  rw [henter]
  exact h
theorem OwL.one {h : Heap} {tg : List Value} {cs : List Tr} {vs : List Value} {F : List Nat} (H : OwL h tg cs vs F) (hc : cells1 cs) (ht : ∀ u, u ∈ tg → u.oneCell' = true) : ∀ z, z ∈ vs → z.oneCell' = true := fun z hz => by
  obtain ⟨j, hj⟩ := List.mem_iff_getElem?.1 hz
  have hjl := (List.getElem?_eq_some_iff.1 hj).1
  rw [OwL.length H] at hjl
  obtain ⟨z', G', e1, e2, _⟩ := OwL.get H (List.getElem?_eq_getElem hjl)
  rw [hj] at e1; injection e1 with e1; subst e1
  exact Ow.oneCell (hc _ (List.getElem_mem _)) ht e2
theorem insA {n i : Nat} {cs us : List Tr} (hi : i ≤ n) (hb : (n + 1) * 56 ≤ 140737488355328) (hp : Tr.plainL (cs.take (i * 4) ++ (us ++ cs.drop (i * 4)))) :
    AGood Try.prog 133 [.own (.row 4 n cs), .ro (.int .i64 i), .own (.row 4 1 us)] (.row 4 (n + 1) (cs.take (i * 4) ++ (us ++ cs.drop (i * 4)))) [.gone, .keep, .gone] := by
  refine ⟨hp, by simp [PB.okRL, PB.okR], fun w vals F T hpa hnd ht => ?_⟩
  simp only [PAokL, PAok, Rd] at hpa
  obtain ⟨v0, _, F0, _, _, _, rfl, ⟨_, hx, rfl⟩, ⟨v1, _, F1, _, _, _, rfl, ⟨rfl, rfl, hT1⟩, ⟨v2, _, F2, _, _, _, rfl, ⟨_, hy, rfl⟩, ⟨rfl, rfl, rfl⟩, rfl, rfl⟩, rfl, rfl⟩, rfl, rfl⟩ := hpa
  simp only [Tr.isRow, Bool.false_eq_true, if_false] at hT1
  subst hT1
  simp only [List.append_nil, List.nil_append] at hnd ht ⊢
  have hxo := hx
  have hyo := hy
  simp only [Ow] at hx hy
  obtain ⟨⟨hcl, hc1⟩, hx⟩ := hx
  obtain ⟨⟨hul, hu1⟩, hy⟩ := hy
  rcases hy with ⟨A, _, h0, _⟩ | ⟨g2, c2, cv, e2, fr2, G2, rfl, k2, k3, k4, k5, k6, k7, rfl⟩
  · cases h0
  have hG2 : (g2 :: G2).Nodup := (List.nodup_append.1 hnd).2.1
  have hF0 : F0.Nodup := (List.nodup_append.1 hnd).1
  have hu0 : ∀ z, z ∈ cv.toList.take (1 * 4) → z.oneCell' = true := OwL.one k7 hu1 (fun _ h => by cases h)
  -- the end, from what the run leaves
  have fin : ∀ {e : Ending} {w' : World} {vv : Value} {F' : List Nat}, e = .returned vv → Ow w'.heap [] (.row 4 (n + 1) (cs.take (i * 4) ++ (us ++ cs.drop (i * 4)))) vv F' → F'.Nodup → Fr w (F0 ++ g2 :: G2) w' F' →
      CallR w [v0, .int .i64 i, .slice (some ⟨g2, 0, none⟩) 1 c2] (F0 ++ g2 :: G2) [] (.row 4 (n + 1) (cs.take (i * 4) ++ (us ++ cs.drop (i * 4)))) [.gone, .keep, .gone] e w' := fun he ho hn hf =>
    ⟨_, _, [], he, ho, by simp only [PBokL, PBok]; exact ⟨_, _, [], [], rfl, rfl, ⟨_, _, [], [], rfl, rfl, ⟨_, _, [], [], rfl, rfl, ⟨rfl, rfl⟩, rfl⟩, rfl⟩, rfl⟩, by simpa using hn, by simpa using hf⟩
  have hc3 : cells1 (cs.take (i * 4) ++ (us ++ cs.drop (i * 4))) := fun t h => by
    rcases List.mem_append.1 h with h | h
    · exact hc1 t (List.mem_of_mem_take h)
    · rcases List.mem_append.1 h with h | h
      · exact hu1 t h
      · exact hc1 t (List.mem_of_mem_drop h)
  have hlen : (cs.take (i * 4) ++ (us ++ cs.drop (i * 4))).length = (n + 1) * 4 := by
    rw [List.length_append, List.length_append, List.length_take, List.length_drop]; omega
  rcases Nat.lt_or_ge i n with hin | hin
  · -- among them
    rcases hx with ⟨A, _, h0, _⟩ | ⟨g, c, cur, e1, fr, G, rfl, h2, h3, h4, h5, h6, h7, rfl⟩
    · omega
    have hne : g2 ≠ g := fun h => by
      have := (List.nodup_append.1 hnd).2.2 g (by simp) g2 (by simp)
      exact this h.symm
    have hc0 : ∀ z, z ∈ cur.toList.take (n * 4) → z.oneCell' = true := OwL.one h7 hc1 (fun _ h => by cases h)
    have hcm : c ≤ 9223372036854775807 := h6
    obtain ⟨V1, V2, G1, G3, hV, hG, p1, p2⟩ := OwL.split (ts := cs.take (i * 4)) (us := cs.drop (i * 4)) (by rw [List.take_append_drop]; exact h7)
    have lV1 : V1.length = i * 4 := by rw [OwL.length p1, List.length_take]; omega
    have hp2 : (cur.toList.take (n * 4)).take (i * 4) = V1 := by rw [hV]; exact List.take_left' lV1
    have hp3 : (cur.toList.take (n * 4)).drop (i * 4) = V2 := by rw [hV]; exact List.drop_left' lV1
    have hfar : ∀ {w' : World}, Only w w' g → ∀ k, k ∈ G1 ++ (G2 ++ G3) → w'.heap[k]? = w.heap[k]? := fun ho k hk => by
      have hkl : k < w.heap.size ∧ k ≠ g := by
        have hgG : g ∉ G := (List.nodup_cons.1 hF0).1
        rw [hG] at hgG
        rcases List.mem_append.1 hk with h | h
        · exact ⟨OwL.lt p1 k h, fun e => hgG (by simp [← e, h])⟩
        · rcases List.mem_append.1 h with h | h
          · exact ⟨OwL.lt k7 k h, fun e => (List.nodup_append.1 hnd).2.2 g (by simp) k (by simp [h]) e.symm⟩
          · exact ⟨OwL.lt p2 k h, fun e => hgG (by simp [← e, h])⟩
      exact ho.2.2.2.2 k hkl.1 hkl.2
    have hnd2 : (G1 ++ (G2 ++ G3)).Nodup := by
      have hnd' : ((g :: (G1 ++ G3)) ++ (g2 :: G2)).Nodup := by rw [← hG]; exact hnd
      have q1 : (G1 ++ G3 ++ G2).Nodup := by
        refine List.Nodup.sublist ?_ hnd'
        rw [List.cons_append]
        exact List.Sublist.cons _ (List.Sublist.append (List.Sublist.refl _) (List.sublist_cons_self _ _))
      refine (List.Perm.nodup_iff ?_).1 q1
      rw [List.append_assoc]
      exact List.Perm.append_left _ List.perm_append_comm
    rcases Nat.lt_or_ge c (n + 1) with hr | hr
    · refine callF_of (fn := Try.f133) (by kernel_rfl) (by decide) rfl ((insGrow h2 h4 h5 hc0 k2 k4 k5 hu0 hin hr hb).mono ?_)
      rintro e w' ⟨GG, cur2, rfl, q1, q2, q3, q4, q5, q6⟩
      rw [hp2, hp3] at q5
      refine fin (F' := w.heap.size :: (G1 ++ (G2 ++ G3))) rfl ?_ ?_ ⟨q6.1, q6.2.1, q6.2.2.1, q6.2.2.2.1, fun k hk hkn => q6.2.2.2.2 k hk (fun e => hkn (by simp [e])), fun k hk => ?_⟩
      · simp only [Ow]
        refine ⟨⟨hlen, hc3⟩, .inr ⟨_, GG, cur2, _, _, _, rfl, q3, .inl (Nat.le_refl _), q4, q1, q2, ?_, rfl⟩⟩
        rw [q5]
        exact OwL.append (OwL.frame _ p1 (fun k hk => hfar q6 k (by simp [hk]))) (OwL.append (OwL.frame _ k7 (fun k hk => hfar q6 k (by simp [hk]))) (OwL.frame _ p2 (fun k hk => hfar q6 k (by simp [hk]))))
      · refine List.nodup_cons.2 ⟨fun h => ?_, hnd2⟩
        rcases List.mem_append.1 h with h | h
        · exact Nat.lt_irrefl _ (OwL.lt p1 _ h)
        · rcases List.mem_append.1 h with h | h
          · exact Nat.lt_irrefl _ (OwL.lt k7 _ h)
          · exact Nat.lt_irrefl _ (OwL.lt p2 _ h)
      · rcases List.mem_cons.1 hk with rfl | hk
        · exact .inr (Nat.le_refl _)
        · rw [hG]
          rcases List.mem_append.1 hk with h | h
          · exact .inl (by simp [h])
          · rcases List.mem_append.1 h with h | h
            · exact .inl (by simp [h])
            · exact .inl (by simp [h])
    · refine callF_of (fn := Try.f133) (by kernel_rfl) (by decide) rfl ((insRoom h2 h3 h4 hc0 k2 k3 k4 k5 hu0 hne hin hr hcm).mono ?_)
      rintro e w' ⟨cur2, rfl, q3, q4, q5, q6⟩
      rw [hp2, hp3] at q5
      refine fin (F' := g :: (G1 ++ (G2 ++ G3))) rfl ?_ ?_ ⟨q6.1, q6.2.1, q6.2.2.1, q6.2.2.2.1, fun k hk hkn => q6.2.2.2.2 k hk (fun e => hkn (by simp [e])), fun k hk => .inl ?_⟩
      · simp only [Ow]
        refine ⟨⟨hlen, hc3⟩, .inr ⟨_, c, cur2, _, _, _, rfl, q3, by rw [q4]; exact h3, by rw [q4]; exact h4, hr, h6, ?_, rfl⟩⟩
        rw [q5]
        exact OwL.append (OwL.frame _ p1 (fun k hk => hfar q6 k (by simp [hk]))) (OwL.append (OwL.frame _ k7 (fun k hk => hfar q6 k (by simp [hk]))) (OwL.frame _ p2 (fun k hk => hfar q6 k (by simp [hk]))))
      · refine List.nodup_cons.2 ⟨fun h => ?_, hnd2⟩
        have hgG : g ∉ G := (List.nodup_cons.1 hF0).1
        rw [hG] at hgG
        rcases List.mem_append.1 h with h | h
        · exact hgG (by simp [h])
        · rcases List.mem_append.1 h with h | h
          · exact (List.nodup_append.1 hnd).2.2 g (by simp) g (by simp [h]) rfl
          · exact hgG (by simp [h])
      · rw [hG]
        rcases List.mem_cons.1 hk with rfl | hk
        · simp
        · rcases List.mem_append.1 hk with h | h
          · simp [h]
          · rcases List.mem_append.1 h with h | h <;> simp [h]
  · -- behind them
    obtain rfl : i = n := by omega
    have hct : cs.take (i * 4) ++ (us ++ cs.drop (i * 4)) = cs ++ us := by rw [List.take_of_length_le (by omega), List.drop_eq_nil_of_le (by omega), List.append_nil]
    rw [hct] at fin ⊢
    obtain ⟨ei, hei, he⟩ : ∃ ei, AM.elemOf τ 54 = some ei ∧ ei.size = 4 ∧ ei.bytes = 56 := ⟨_, rfl, rfl, rfl⟩
    obtain ⟨e, hu, heo⟩ := elemOf_ok Ty.ok hei
    have hS : Src Try.prog ei.size 54 (.slice (some ⟨g2, 0, none⟩) 1 c2) 1 (cv.toList.take (1 * 4)) w := by
      refine Src.ofSlice w hu _ 1 c2 _ (by rw [he.1, OwL.length k7]; exact hul) (cellsAt k2 0 _ fun q v hq => ?_) hu0
      have hql := (List.getElem?_eq_some_iff.1 hq).1
      rw [Nat.zero_add]
      rw [List.getElem?_take] at hq
      split at hq
      · exact hq
      · cases hq
    obtain ⟨vv, w', hrun, F1, o1, o2, o3, o4, o5, o6, o7, o8, o9⟩ := append_core (ty := 54) (t := 54) (t2 := 54) (F := G2) hu heo (by omega) (by rw [he.1]; exact hxo) hS k7 hu1 (by
      refine List.Nodup.sublist ?_ hnd
      exact List.Sublist.append (List.Sublist.refl _) (List.sublist_cons_self _ _)) (by rw [he.2]; exact hb) (by omega)
    rw [he.1] at o1
    have hcall : Calls Try.prog 133 #[v0, .int .i64 (i : Int), .slice (some ⟨g2, 0, none⟩) 1 c2] w fun e w2 => e = .returned vv ∧ w2 = w' := by
      rcases hx with ⟨A, rfl, rfl, _⟩ | ⟨g, c, cur, e1, fr, G, rfl, h2, h3, h4, h5, h6, h7, rfl⟩
      · exact insEnd (Nat.le_refl _) (by omega) (fun _ => rfl) hrun
      · exact insEnd h5 h6 (fun h => by cases h) hrun
    refine callF_of (fn := Try.f133) (by kernel_rfl) (by decide) rfl (hcall.mono ?_)
    rintro e w2 ⟨rfl, rfl⟩
    refine fin (F' := F1) rfl o1 o2 ⟨o5, o6, o7, o8, fun k hk hkn => o9 k hk (fun h => hkn (by simp [h])), fun k hk => ?_⟩
    rcases o3 k hk with h | h | h
    · exact .inl (by simp [h])
    · exact .inl (by simp [h])
    · exact .inr h
theorem delA {m k : Nat} {cs : List Tr} (hk : k ≤ m) (hp : Tr.plainL (cs.take (k * 4) ++ cs.drop ((k + 1) * 4))) :
    AGood Try.prog 134 [.own (.row 4 (m + 1) cs), .ro (.int .i64 k), .ro (.int .i64 ((k : Int) + 1))] (.row 4 m (cs.take (k * 4) ++ cs.drop ((k + 1) * 4))) [.gone, .keep, .keep] := by
  refine ⟨hp, by simp [PB.okRL, PB.okR], fun w vals F T hpa hnd ht => ?_⟩
  simp only [PAokL, PAok, Rd] at hpa
  obtain ⟨v0, _, F0, _, _, _, rfl, ⟨_, hx, rfl⟩, ⟨v1, _, F1, _, _, _, rfl, ⟨rfl, rfl, hT1⟩, ⟨v2, _, F2, _, _, _, rfl, ⟨rfl, rfl, hT2⟩, ⟨rfl, rfl, rfl⟩, rfl, rfl⟩, rfl, rfl⟩, rfl, rfl⟩ := hpa
  simp only [Tr.isRow, Bool.false_eq_true, if_false] at hT1 hT2
  subst hT1; subst hT2
  simp only [List.append_nil, List.nil_append] at hnd ht ⊢
  simp only [Ow] at hx
  obtain ⟨⟨hcl, hc1⟩, hx⟩ := hx
  rcases hx with ⟨A, _, h0, _⟩ | ⟨g, c, cur, e1, fr, G, rfl, h2, h3, h4, h5, h6, h7, rfl⟩
  · omega
  have hc0 : ∀ z, z ∈ cur.toList.take ((m + 1) * 4) → z.oneCell' = true := OwL.one h7 hc1 (fun _ h => by cases h)
  have hgG : g ∉ G := (List.nodup_cons.1 hnd).1
  have e0 : cs = cs.take (k * 4) ++ ((cs.drop (k * 4)).take 4 ++ cs.drop ((k + 1) * 4)) := by
    have : cs.drop ((k + 1) * 4) = (cs.drop (k * 4)).drop 4 := by rw [List.drop_drop]; congr 1; omega
    rw [this, List.take_append_drop, List.take_append_drop]
  have h7' := h7
  rw [e0] at h7'
  obtain ⟨V1, Vr, G1, Gr, hV, hG, p1, h7'⟩ := OwL.split h7'
  obtain ⟨V2, V3, G2, G3, hV2, hG2, p2, p3⟩ := OwL.split h7'
  have lV1 : V1.length = k * 4 := by rw [OwL.length p1, List.length_take]; omega
  have lV2 : V2.length = 4 := by rw [OwL.length p2, List.length_take, List.length_drop]; omega
  have hp2 : (cur.toList.take ((m + 1) * 4)).take (k * 4) = V1 := by rw [hV]; exact List.take_left' lV1
  have hp3 : (cur.toList.take ((m + 1) * 4)).drop ((k + 1) * 4) = V3 := by rw [hV, hV2, ← List.append_assoc]; exact List.drop_left' (by rw [List.length_append, lV1, lV2]; omega)
  refine callF_of (fn := Try.f134) (by kernel_rfl) (by decide) rfl ((delRun h2 h3 h4 hk h5 h6 hc0).mono ?_)
  rintro e w' ⟨cur2, rfl, q3, q4, q5, q6⟩
  rw [hp2, hp3] at q5
  have hfar : ∀ j, j ∈ G1 ++ G3 → w'.heap[j]? = w.heap[j]? := fun j hj => by
    rw [hG, hG2] at hgG
    rcases List.mem_append.1 hj with h | h
    · exact q6.2.2.2.2 j (OwL.lt p1 j h) (fun e => hgG (by simp [← e, h]))
    · exact q6.2.2.2.2 j (OwL.lt p3 j h) (fun e => hgG (by simp [← e, h]))
  have hsub : (g :: (G1 ++ G3)).Nodup := by
    refine List.Nodup.sublist ?_ hnd
    rw [hG, hG2]
    exact List.Sublist.cons_cons _ (List.Sublist.append (List.Sublist.refl _) (List.sublist_append_right _ _))
  refine ⟨_, g :: (G1 ++ G3), [], rfl, ?_, by simp only [PBokL, PBok]; exact ⟨_, _, [], [], rfl, rfl, ⟨_, _, [], [], rfl, rfl, ⟨_, _, [], [], rfl, rfl, ⟨rfl, rfl⟩, rfl⟩, rfl⟩, rfl⟩, by simpa using hsub, q6.1, q6.2.1, q6.2.2.1, q6.2.2.2.1, fun j hj hjn => q6.2.2.2.2 j hj (fun e => hjn (by simp [e])), fun j hj => .inl ?_⟩
  · simp only [Ow]
    refine ⟨⟨by rw [List.length_append, List.length_take, List.length_drop]; omega, fun t h => ?_⟩, .inr ⟨_, c, cur2, _, _, _, rfl, q3, by rw [q4]; exact h3, by rw [q4]; exact h4, by omega, h6, ?_, rfl⟩⟩
    · rcases List.mem_append.1 h with h | h
      · exact hc1 t (List.mem_of_mem_take h)
      · exact hc1 t (List.mem_of_mem_drop h)
    rw [q5]
    exact OwL.append (OwL.frame _ p1 (fun j hj => hfar j (by simp [hj]))) (OwL.frame _ p3 (fun j hj => hfar j (by simp [hj])))
  · rw [List.append_nil] at hj
    rw [hG, hG2]
    rcases List.mem_cons.1 hj with rfl | hj
    · simp
    · rcases List.mem_append.1 hj with h | h <;> simp [h]
end Go.Proofs.Ytbkpmljdmlhmhaa
