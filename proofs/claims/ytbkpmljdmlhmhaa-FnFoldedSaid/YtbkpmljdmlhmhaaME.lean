/- AN ABSTRACT MACHINE: what slices.Insert of one element and slices.Delete of one do to the cells of a row. No condition of its own. -/
import Derived.Test.YtbkpmljdmlhmhaaMD
import Derived.Lib.AppendZerosOnto
import Derived.Lib.Overlaps
import Derived.Laws.Externs
set_option linter.unusedVariables false
set_option linter.unusedSimpArgs false
namespace Go.AM
open Go AM
section
variable {P : Program}
/-- 'copy' of elements of 'size' cells each: all is read before anything is written. -/
theorem run_copy_multi (w : World) (dT sT ty elem : TypeId) (size : Nat) (b o dLen dCap : Nat) (a : Addr) (sLen sCap : Nat) (cs : List Value) (n : Nat)
    (hu : P.underlying dT = some (.slice elem)) (hs : (P.info? elem).map (·.size) = some size) (hm : Nat.min sLen dLen = n) (hn : cs.length = n * size)
    (hsrc : ∀ j v, cs[j]? = some v → w.cell? (a.add j) = some v) (hc : ∀ j, j < cs.length → (w.cell? ⟨b, o + j, none⟩).isSome = true) (hf : ∀ j, j < cs.length → w.frozen? ⟨b, o + j, none⟩ = false) (h1 : ∀ v, v ∈ cs → v.oneCell' = true) :
    (Builtin.copy_ #[dT, sT] ty #[.slice (some ⟨b, o, none⟩) dLen dCap, .slice (some a) sLen sCap]).run P w = .ok (goInt n) (w.setCells b o cs) := by
  have hl := run_loadCells_list (P := P) w a cs hsrc
  have hst := run_storeCells_cells (P := P) b o cs 0 w (by simpa using hc) (by simpa using hf) h1
  rw [hn] at hl
  cases hq : P.info? elem with
  | none => simp [hq] at hs
  | some i =>
    have hi : i.size = size := by simpa [hq] using hs
    simp [Builtin.copy_, run_underlying hu, Builtin.lenOf, Builtin.firstCells, sizeOf, typeInfo, hq, hi, hm, hl, hst]
theorem cellsAt {W : World} {g e : Nat} {fr : Nat × Nat} {cur : Array Value} (hh : W.heap[g]? = some (.cells cur e fr)) (o : Nat) (vs : List Value) (h : ∀ j v, vs[j]? = some v → cur.toList[o + j]? = some v) : ∀ j v, vs[j]? = some v → W.cell? ((⟨g, o, none⟩ : Addr).add j) = some v := by
  intro j v hj
  rw [add_off, cell_eq, cellAt_of hh, ← Array.getElem?_toList]
  exact h j v hj
theorem cell_some {W : World} {g e : Nat} {fr : Nat × Nat} {cur : Array Value} (hh : W.heap[g]? = some (.cells cur e fr)) {q : Nat} (hq : q < cur.size) : (W.cell? ⟨g, q, none⟩).isSome = true := by
  rw [cell_eq, cellAt_of hh]; simp [hq]
/-- all is as it was, but perhaps the block g -/
def Only (w w' : World) (g : Nat) : Prop := w'.os = w.os ∧ w'.tape = w.tape ∧ w'.output = w.output ∧ w.heap.size ≤ w'.heap.size ∧ ∀ k, k < w.heap.size → k ≠ g → w'.heap[k]? = w.heap[k]?
theorem take_of_get {xs ys : List Value} {m : Nat} (h : m ≤ xs.length) (he : ∀ q, q < m → xs[q]? = ys[q]?) (hl : ys.length = m) : xs.take m = ys := by
  apply List.ext_getElem?
  intro q
  rcases Nat.lt_or_ge q m with h1 | h1
  · rw [List.getElem?_take, if_pos h1, he q h1]
  · rw [List.getElem?_take, if_neg (by omega), List.getElem?_eq_none (by omega)]
/-- 'copy(s[i+1:], s[i:]); copy(s[i:], v)', v one element of another row, where there is room for one more. -/
theorem ins_room {t e sz : Nat} (ht : P.underlying t = some (.slice e)) (hs : (P.info? e).map (·.size) = some sz) {W : World} {g n c i g2 c2 e1 e2 : Nat} {fr fr2 : Nat × Nat} {cur cv : Array Value}
    (hh : W.heap[g]? = some (.cells cur e1 fr)) (hfr : unfr fr cur.size sz) (hcs : cur.size = c * sz) (h1 : ∀ u, u ∈ cur.toList.take (n * sz) → u.oneCell' = true)
    (hh2 : W.heap[g2]? = some (.cells cv e2 fr2)) (hcs2 : cv.size = c2 * sz) (hc2 : 1 ≤ c2) (h12 : ∀ u, u ∈ cv.toList.take (1 * sz) → u.oneCell' = true) (hne : g2 ≠ g) (hi : i < n) (hroom : n + 1 ≤ c) :
    ∃ W1 W2 cur2, (∀ ty dc sc, (Builtin.copy_ #[t, t] ty #[.slice (some ⟨g, (i + 1) * sz, none⟩) (n - i) dc, .slice (some ⟨g, i * sz, none⟩) (n + 1 - i) sc]).run P W = .ok (goInt ((n - i : Nat) : Int)) W1) ∧
      (∀ ty dc sc, (Builtin.copy_ #[t, t] ty #[.slice (some ⟨g, i * sz, none⟩) (n + 1 - i) dc, .slice (some ⟨g2, 0, none⟩) 1 sc]).run P W1 = .ok (goInt ((1 : Nat) : Int)) W2) ∧
      W2.heap[g]? = some (.cells cur2 e1 fr) ∧ cur2.size = cur.size ∧ cur2.toList.take ((n + 1) * sz) = (cur.toList.take (n * sz)).take (i * sz) ++ (cv.toList.take (1 * sz) ++ (cur.toList.take (n * sz)).drop (i * sz)) ∧ Only W W2 g := by
  obtain ⟨inner, hin⟩ : ∃ inner, inner = cur.toList.take (n * sz) := ⟨_, rfl⟩
  obtain ⟨vs, hvs⟩ : ∃ vs, vs = cv.toList.take (1 * sz) := ⟨_, rfl⟩
  have e1' : (n + 1) * sz = n * sz + sz := Nat.succ_mul _ _
  have e2' : (i + 1) * sz = i * sz + sz := Nat.succ_mul _ _
  have e3 : (n + 1) * sz ≤ c * sz := Nat.mul_le_mul_right _ hroom
  have e4 : (i + 1) * sz ≤ n * sz := Nat.mul_le_mul_right _ hi
  have e5 : (n - i) * sz = n * sz - i * sz := Nat.sub_mul _ _ _
  have e6 : 1 * sz ≤ c2 * sz := Nat.mul_le_mul_right _ hc2
  have hcl : cur.toList.length = cur.size := Array.length_toList
  have hcvl : cv.toList.length = cv.size := Array.length_toList
  have hl : inner.length = n * sz := by rw [hin, List.length_take]; omega
  have hl2 : vs.length = sz := by rw [hvs, List.length_take]; omega
  rw [← hin] at h1 ⊢
  rw [← hvs] at h12 ⊢
  obtain ⟨tail, htl⟩ : ∃ tail, tail = inner.drop (i * sz) := ⟨_, rfl⟩
  have htlen : tail.length = (n - i) * sz := by rw [htl, List.length_drop, hl, e5]
  have hcur : ∀ q, q < n * sz → cur.toList[q]? = inner[q]? := fun q hq => by rw [hin, List.getElem?_take, if_pos hq]
  have hsrc := cellsAt hh (i * sz) tail (fun j v hj => by
    have hjl := (List.getElem?_eq_some_iff.1 hj).1
    rw [hcur _ (by omega)]
    rw [htl, List.getElem?_drop] at hj
    exact hj)
  have c1 : ∀ ty dc sc, (Builtin.copy_ #[t, t] ty #[.slice (some ⟨g, (i + 1) * sz, none⟩) (n - i) dc, .slice (some ⟨g, i * sz, none⟩) (n + 1 - i) sc]).run P W = .ok (goInt ((n - i : Nat) : Int)) (W.setCells g ((i + 1) * sz) tail) := fun ty dc sc =>
    run_copy_multi W t t ty e sz g ((i + 1) * sz) (n - i) dc ⟨g, i * sz, none⟩ (n + 1 - i) sc tail (n - i) ht hs (by simp only [Nat.min_def]; split <;> omega) htlen hsrc (fun j hj => cell_some hh (by omega)) (fun j _ => unfr_frozen hh hfr (by omega)) (fun u hu => h1 u (by rw [htl] at hu; exact List.mem_of_mem_drop hu))
  obtain ⟨cur1, h3, h5, h4⟩ := setCells_row tail ((i + 1) * sz) W cur hh
  rw [setAt_eq _ _ _ (by omega)] at h5
  obtain ⟨W1, hW1⟩ : ∃ W1, W1 = W.setCells g ((i + 1) * sz) tail := ⟨_, rfl⟩
  rw [← hW1] at h3
  have hfar1 : ∀ k', k' ≠ g → W1.heap[k']? = W.heap[k']? := fun k' hk' => by rw [hW1]; exact setCells_far hk' _ _ _
  have hh21 : W1.heap[g2]? = some (.cells cv e2 fr2) := (hfar1 g2 hne).trans hh2
  have hsrc2 := cellsAt hh21 0 vs (fun j v hj => by
    have hjl := (List.getElem?_eq_some_iff.1 hj).1
    rw [hvs, List.getElem?_take, if_pos (by omega)] at hj
    rw [Nat.zero_add]; exact hj)
  have hfr1 : unfr fr cur1.size sz := by rw [h4]; exact hfr
  have c2' : ∀ ty dc sc, (Builtin.copy_ #[t, t] ty #[.slice (some ⟨g, i * sz, none⟩) (n + 1 - i) dc, .slice (some ⟨g2, 0, none⟩) 1 sc]).run P W1 = .ok (goInt ((1 : Nat) : Int)) (W1.setCells g (i * sz) vs) := fun ty dc sc =>
    run_copy_multi W1 t t ty e sz g (i * sz) (n + 1 - i) dc ⟨g2, 0, none⟩ 1 sc vs 1 ht hs (by simp only [Nat.min_def]; split <;> omega) (by rw [hl2, Nat.one_mul]) hsrc2 (fun j hj => cell_some h3 (by omega)) (fun j _ => unfr_frozen h3 hfr1 (by omega)) h12
  obtain ⟨cur2, h6, h8, h7⟩ := setCells_row vs (i * sz) W1 cur1 h3
  have hcl1 : cur1.toList.length = cur1.size := Array.length_toList
  rw [setAt_eq _ _ _ (by omega)] at h8
  obtain ⟨s1, s2, s3, s4⟩ := setCells_same (b := g) tail ((i + 1) * sz) W
  obtain ⟨s5, s6, s7, s8⟩ := setCells_same (b := g) vs (i * sz) W1
  rw [← hW1] at s1 s2 s3 s4 c1
  refine ⟨W1, _, cur2, c1, c2', h6, h7.trans h4, ?_, s5.trans s1, s6.trans s2, s7.trans s3, by omega, fun k' _ hk' => (setCells_far hk' _ _ _).trans (hfar1 k' hk')⟩
  have ht5 : cur1.toList.take (i * sz) = inner.take (i * sz) := by
    rw [h5, List.append_assoc, List.take_append_of_le_length (by rw [List.length_take]; omega), List.take_take, Nat.min_eq_left (by omega), hin, List.take_take, Nat.min_eq_left (by omega)]
  have hd5 : cur1.toList.drop (i * sz + vs.length) = tail ++ cur.toList.drop ((i + 1) * sz + tail.length) := by
    rw [hl2, ← e2', h5, List.append_assoc]
    exact List.drop_left' (by rw [List.length_take]; omega)
  rw [h8, ht5, hd5, ← htl, ← List.append_assoc, ← List.append_assoc, List.append_assoc (inner.take (i * sz))]
  exact List.take_left' (by rw [List.length_append, List.length_append, List.length_take]; omega)
/-- 's2 := append(s[:i], make(S, n+1-i)...); copy(s2[i:], v); copy(s2[i+1:], s[i:])' where there is no room: a new row. -/
theorem ins_grow {t ti e : Nat} {ei : TI} (ht : P.underlying t = some (.slice e)) (he : TI.Ok P e ei) {kn : IntKind} (hti : P.underlying ti = some (.int kn)) (hs0 : 0 < ei.size) (hb0 : 0 < ei.bytes) {W : World} {g n c i g2 c2 e1 e2 : Nat} {fr fr2 : Nat × Nat} {cur cv : Array Value}
    (hh : W.heap[g]? = some (.cells cur e1 fr)) (hcs : cur.size = c * ei.size) (hnc : n ≤ c) (h1 : ∀ u, u ∈ cur.toList.take (n * ei.size) → u.oneCell' = true)
    (hh2 : W.heap[g2]? = some (.cells cv e2 fr2)) (hcs2 : cv.size = c2 * ei.size) (hc2 : 1 ≤ c2) (h12 : ∀ u, u ∈ cv.toList.take (1 * ei.size) → u.oneCell' = true) (hi : i < n) (hroom : c < n + 1) (hl : (n + 1) * ei.bytes ≤ 140737488355328) :
    ∃ G W1 W2 W3 cur3, n + 1 ≤ G ∧ G ≤ maxL ∧ (∀ ty, (Builtin.append_ #[t, ti] ty #[.slice (some ⟨g, 0, none⟩) i c, .int .i64 ((n + 1 - i : Nat) : Int)]).run P W = .ok (.slice (some ⟨W.heap.size, 0, none⟩) (n + 1) G) W1) ∧
      (∀ ty dc sc, (Builtin.copy_ #[t, t] ty #[.slice (some ⟨W.heap.size, i * ei.size, none⟩) (n + 1 - i) dc, .slice (some ⟨g2, 0, none⟩) 1 sc]).run P W1 = .ok (goInt ((1 : Nat) : Int)) W2) ∧
      (∀ ty dc sc, (Builtin.copy_ #[t, t] ty #[.slice (some ⟨W.heap.size, (i + 1) * ei.size, none⟩) (n - i) dc, .slice (some ⟨g, i * ei.size, none⟩) (n - i) sc]).run P W2.drew = .ok (goInt ((n - i : Nat) : Int)) W3) ∧
      W3.heap[W.heap.size]? = some (.cells cur3 e (0, 0)) ∧ cur3.size = G * ei.size ∧ cur3.toList.take ((n + 1) * ei.size) = (cur.toList.take (n * ei.size)).take (i * ei.size) ++ (cv.toList.take (1 * ei.size) ++ (cur.toList.take (n * ei.size)).drop (i * ei.size)) ∧ Only W W3 g := by
  obtain ⟨i0, hi0, hz1, hz2, hz0⟩ := he.tinfo
  obtain ⟨sz, hsz⟩ : ∃ sz, sz = ei.size := ⟨_, rfl⟩
  have hz : ei.zeroV.cells.size = ei.size := by rw [← Array.length_toList, zeroV_cells he, List.length_map]; exact he.len
  rw [← hsz] at hs0 hcs h1 hcs2 h12 hz hz1 ⊢
  have hs : (P.info? e).map (·.size) = some sz := by rw [hi0]; simp [hz1]
  obtain ⟨inner, hin⟩ : ∃ inner, inner = cur.toList.take (n * sz) := ⟨_, rfl⟩
  obtain ⟨vs, hvs⟩ : ∃ vs, vs = cv.toList.take (1 * sz) := ⟨_, rfl⟩
  have e1' : (n + 1) * sz = n * sz + sz := Nat.succ_mul _ _
  have e2' : (i + 1) * sz = i * sz + sz := Nat.succ_mul _ _
  have e3 : n * sz ≤ c * sz := Nat.mul_le_mul_right _ hnc
  have e4 : (i + 1) * sz ≤ n * sz := Nat.mul_le_mul_right _ hi
  have e5 : (n - i) * sz = n * sz - i * sz := Nat.sub_mul _ _ _
  have e7 : (n + 1 - i) * sz = (n + 1) * sz - i * sz := Nat.sub_mul _ _ _
  have e6 : 1 * sz ≤ c2 * sz := Nat.mul_le_mul_right _ hc2
  have hcl : cur.toList.length = cur.size := Array.length_toList
  have hcvl : cv.toList.length = cv.size := Array.length_toList
  have hil : inner.length = n * sz := by rw [hin, List.length_take]; omega
  have hl2 : vs.length = sz := by rw [hvs, List.length_take]; omega
  rw [← hin] at h1 ⊢
  rw [← hvs] at h12 ⊢
  have hgl : g < W.heap.size := lt_of_get hh
  have hg2l : g2 < W.heap.size := lt_of_get hh2
  have hcur : ∀ q, q < n * sz → cur.toList[q]? = inner[q]? := fun q hq => by rw [hin, List.getElem?_take, if_pos hq]
  -- the append
  obtain ⟨olds, hol⟩ : ∃ olds, olds = inner.take (i * sz) := ⟨_, rfl⟩
  have holl : olds.length = i * sz := by rw [hol, List.length_take]; omega
  have hsrc0 := cellsAt (W := W.drew) hh 0 olds (fun j v hj => by
    have hjl := (List.getElem?_eq_some_iff.1 hj).1
    rw [Nat.zero_add, hcur _ (by omega)]
    rw [hol, List.getElem?_take, if_pos (by omega)] at hj
    exact hj)
  have hold : (Builtin.firstCells i0.size i (.slice (some ⟨g, 0, none⟩) i c)).run P W.drew = .ok olds.toArray W.drew := by
    have h := run_loadCells_list (P := P) W.drew ⟨g, 0, none⟩ olds hsrc0
    rw [holl] at h
    simp only [Builtin.firstCells, hz1]
    exact h
  obtain ⟨G, hG⟩ : ∃ G, G = grownCap W (n + 1) c e := ⟨_, rfl⟩
  have hb1 : n + 1 ≤ (n + 1) * ei.bytes := Nat.le_mul_of_pos_right _ hb0
  have hrz : ∀ ty, (Builtin.append_ #[t, ti] ty #[.slice (some ⟨g, 0, none⟩) i c, .int .i64 ((n + 1 - i : Nat) : Int)]).run P W =
      .ok (.slice (some ⟨W.heap.size, 0, none⟩) (n + 1) G) (W.drew.alloc (.cells (olds.toArray ++ Builtin.zeroCells ei.zeroV.cells (n + 1 - i) ++ Builtin.zeroCells ei.zeroV.cells (G - (n + 1))) e)) := fun ty => by
    have hik : i + (n + 1 - i) = n + 1 := by omega
    have hle : (n + 1 - i) * ei.bytes ≤ (n + 1) * ei.bytes := Nat.mul_le_mul_right _ (by omega)
    have h := Lib.run_append_grow_zeros W t ti ty e i0 ei.zeroV .i64 kn ht hti hi0 hz0 (some ⟨g, 0, none⟩) i c olds hold (n + 1 - i) (by omega) (by omega) (by omega) (by omega) (by rw [hz2]; omega) (by rw [hz2, hik]; exact growslice_fits hroom hl)
    rw [hik, ← hG] at h
    exact h
  obtain ⟨hGn, hG63⟩ : n + 1 ≤ G ∧ G ≤ maxL := by rw [hG]; exact grown_bounds W (n + 1) c e (by omega)
  obtain ⟨row, hrow⟩ : ∃ row : Array Value, row = olds.toArray ++ Builtin.zeroCells ei.zeroV.cells (n + 1 - i) ++ Builtin.zeroCells ei.zeroV.cells (G - (n + 1)) := ⟨_, rfl⟩
  rw [← hrow] at hrz
  have hrs : row.size = G * sz := by
    have e8 : (G - (n + 1)) * sz = G * sz - (n + 1) * sz := Nat.sub_mul _ _ _
    have e9 : (n + 1) * sz ≤ G * sz := Nat.mul_le_mul_right _ hGn
    rw [hrow]
    simp only [Array.size_append, Builtin.zeroCells, Array.size_map, Array.size_range, hz, List.size_toArray, holl]
    omega
  have hrt : row.toList.take (i * sz) = olds := by
    rw [hrow]
    simp only [Array.toList_append, List.append_assoc]
    exact List.take_left' holl
  obtain ⟨W1, hW1⟩ : ∃ W1, W1 = W.drew.alloc (.cells row e) := ⟨_, rfl⟩
  rw [← hW1] at hrz
  have hN : W1.heap[W.heap.size]? = some (.cells row e (0, 0)) := by rw [hW1]; exact push_at W.drew _
  have hold1 : ∀ k', k' < W.heap.size → W1.heap[k']? = W.heap[k']? := fun k' hk' => by rw [hW1]; exact push_old W.drew _ k' hk'
  have e9 : (n + 1) * sz ≤ G * sz := Nat.mul_le_mul_right _ hGn
  -- the first copy
  have hh21 : W1.heap[g2]? = some (.cells cv e2 fr2) := (hold1 g2 hg2l).trans hh2
  have hsrc2 := cellsAt hh21 0 vs (fun j v hj => by
    have hjl := (List.getElem?_eq_some_iff.1 hj).1
    rw [hvs, List.getElem?_take, if_pos (by omega)] at hj
    rw [Nat.zero_add]; exact hj)
  have c1 : ∀ ty dc sc, (Builtin.copy_ #[t, t] ty #[.slice (some ⟨W.heap.size, i * sz, none⟩) (n + 1 - i) dc, .slice (some ⟨g2, 0, none⟩) 1 sc]).run P W1 = .ok (goInt ((1 : Nat) : Int)) (W1.setCells W.heap.size (i * sz) vs) := fun ty dc sc =>
    run_copy_multi W1 t t ty e sz W.heap.size (i * sz) (n + 1 - i) dc ⟨g2, 0, none⟩ 1 sc vs 1 ht hs (by simp only [Nat.min_def]; split <;> omega) (by rw [hl2, Nat.one_mul]) hsrc2 (fun j hj => cell_some hN (by omega)) (fun j _ => unfr_frozen (sz := 1) hN (.inl (Nat.le_refl _)) (by omega)) h12
  have hrl : row.toList.length = row.size := Array.length_toList
  obtain ⟨cur1, h3, h5, h4⟩ := setCells_row vs (i * sz) W1 row hN
  rw [setAt_eq _ _ _ (by omega)] at h5
  obtain ⟨W2, hW2⟩ : ∃ W2, W2 = W1.setCells W.heap.size (i * sz) vs := ⟨_, rfl⟩
  rw [← hW2] at h3
  have hfar2 : ∀ k', k' < W.heap.size → W2.heap[k']? = W.heap[k']? := fun k' hk' => by rw [hW2]; exact (setCells_far (Nat.ne_of_lt hk') _ _ _).trans (hold1 k' hk')
  -- the second
  obtain ⟨tail, htl⟩ : ∃ tail, tail = inner.drop (i * sz) := ⟨_, rfl⟩
  have htlen : tail.length = (n - i) * sz := by rw [htl, List.length_drop, hil, e5]
  have hsrc := cellsAt (W := W2.drew) ((hfar2 g hgl).trans hh) (i * sz) tail (fun j v hj => by
    have hjl := (List.getElem?_eq_some_iff.1 hj).1
    rw [hcur _ (by omega)]
    rw [htl, List.getElem?_drop] at hj
    exact hj)
  have h3' : W2.drew.heap[W.heap.size]? = some (.cells cur1 e (0, 0)) := h3
  have hcl1 : cur1.toList.length = cur1.size := Array.length_toList
  have c2' : ∀ ty dc sc, (Builtin.copy_ #[t, t] ty #[.slice (some ⟨W.heap.size, (i + 1) * sz, none⟩) (n - i) dc, .slice (some ⟨g, i * sz, none⟩) (n - i) sc]).run P W2.drew = .ok (goInt ((n - i : Nat) : Int)) (W2.drew.setCells W.heap.size ((i + 1) * sz) tail) := fun ty dc sc =>
    run_copy_multi W2.drew t t ty e sz W.heap.size ((i + 1) * sz) (n - i) dc ⟨g, i * sz, none⟩ (n - i) sc tail (n - i) ht hs (by simp only [Nat.min_def]; split <;> omega) htlen hsrc (fun j hj => cell_some h3' (by omega)) (fun j _ => unfr_frozen (sz := 1) h3' (.inl (Nat.le_refl _)) (by omega)) (fun u hu => h1 u (by rw [htl] at hu; exact List.mem_of_mem_drop hu))
  obtain ⟨cur2, h6, h8, h7⟩ := setCells_row tail ((i + 1) * sz) W2.drew cur1 h3'
  rw [setAt_eq _ _ _ (by omega)] at h8
  obtain ⟨s1, s2, s3, s4⟩ := setCells_same (b := W.heap.size) vs (i * sz) W1
  obtain ⟨s5, s6, s7, s8⟩ := setCells_same (b := W.heap.size) tail ((i + 1) * sz) W2.drew
  rw [← hW2] at s1 s2 s3 s4 c1
  have w1 : W1.os = W.os ∧ W1.tape = W.tape ∧ W1.output = W.output ∧ W.heap.size ≤ W1.heap.size := by rw [hW1]; exact ⟨rfl, rfl, rfl, by simp [World.alloc]⟩
  refine ⟨G, W1, W2, _, cur2, hGn, hG63, hrz, c1, c2', h6, by rw [h7, h4, hrs], ?_, s5.trans (s1.trans w1.1), s6.trans (s2.trans w1.2.1), s7.trans (s3.trans w1.2.2.1), by rw [s8]; show W.heap.size ≤ W2.heap.size; omega, fun k' hk' _ => (setCells_far (Nat.ne_of_lt hk') _ _ _).trans (hfar2 k' hk')⟩
  have ht5 : cur1.toList.take ((i + 1) * sz) = inner.take (i * sz) ++ vs := by
    rw [h5, hrt, hol]
    exact List.take_left' (by rw [List.length_append, List.length_take]; omega)
  rw [h8, ht5, ← htl, ← List.append_assoc]
  exact List.take_left' (by rw [List.length_append, List.length_append, List.length_take]; omega)
/-- 'clear' of m elements behind the n that the row has: what it has stays. -/
theorem clear_tail {t e : Nat} {ei : TI} (ht : P.underlying t = some (.slice e)) (he : TI.Ok P e ei) {W : World} {g n c m e1 : Nat} {fr : Nat × Nat} {cur : Array Value} (hh : W.heap[g]? = some (.cells cur e1 fr)) (hfr : unfr fr cur.size ei.size) (hcs : cur.size = c * ei.size) (hm : 0 < m) (hnm : n + m ≤ c) (c2 ty : Nat) :
    ∃ W1 cur1, (Builtin.clear_ #[t] ty #[.slice (some ⟨g, n * ei.size, none⟩) m c2]).run P W = .ok (.tuple #[]) W1 ∧ W1.heap[g]? = some (.cells cur1 e1 fr) ∧ cur1.size = cur.size ∧ cur1.toList.take (n * ei.size) = cur.toList.take (n * ei.size) ∧ Only W W1 g := by
  obtain ⟨i0, hi0, hz1, hz2, hz0⟩ := he.tinfo
  have hz : ei.zeroV.cells.size = ei.size := by rw [← Array.length_toList, zeroV_cells he, List.length_map]; exact he.len
  obtain ⟨news, hnews⟩ : ∃ news, news = (Builtin.zeroCells ei.zeroV.cells m).toList := ⟨_, rfl⟩
  have hnl : news.length = m * ei.size := by rw [hnews]; simp [Builtin.zeroCells, hz]
  have hone : ∀ u, u ∈ news → u.oneCell' = true := by
    intro u hu
    rw [hnews] at hu
    simp only [Builtin.zeroCells, Array.toList_map, List.mem_map] at hu
    obtain ⟨q, hq, rfl⟩ := hu
    have hq' : q < m * ei.zeroV.cells.size := by simpa using hq
    have h0 : 0 < ei.zeroV.cells.size := by
      rcases Nat.eq_zero_or_pos ei.zeroV.cells.size with h | h
      · rw [h, Nat.mul_zero] at hq'; omega
      · exact h
    rw [getElem!_pos ei.zeroV.cells _ (Nat.mod_lt _ h0)]
    have : ei.zeroV.cells[q % ei.zeroV.cells.size]'(Nat.mod_lt _ h0) ∈ ei.zeroV.cells.toList := by simp
    rw [zeroV_cells he] at this
    obtain ⟨ck, hck0, hck⟩ := List.mem_map.1 this
    rw [← hck]
    clear hck hck0 this
    cases ck <;> first | rfl | (rename_i x; cases x <;> rfl)
  have hle : (n + m) * ei.size ≤ c * ei.size := Nat.mul_le_mul_right _ hnm
  have e1' : (n + m) * ei.size = n * ei.size + m * ei.size := Nat.add_mul _ _ _
  have hcl : cur.toList.length = cur.size := Array.length_toList
  have hst := run_storeCells_cells (P := P) g (n * ei.size) news 0 W (fun j hj => cell_some hh (by omega)) (fun j _ => unfr_frozen hh hfr (by omega)) hone
  rw [Nat.add_zero] at hst
  obtain ⟨cur', h3, h5, h4⟩ := setCells_row news (n * ei.size) W cur hh
  rw [setAt_eq _ _ _ (by omega)] at h5
  obtain ⟨s1, s2, s3, s4⟩ := setCells_same (b := g) news (n * ei.size) W
  obtain ⟨m', rfl⟩ : ∃ m', m = m' + 1 := ⟨m - 1, by omega⟩
  refine ⟨_, cur', by simp [Builtin.clear_, run_underlying ht, zeroValue, typeInfo, hi0, hz0, ← hnews, hst], h3, h4, ?_, s1, s2, s3, by rw [s4]; exact Nat.le_refl _, fun k' _ hk' => setCells_far hk' _ _ _⟩
  rw [h5, List.append_assoc, List.take_append_of_le_length (by rw [List.length_take]; omega), List.take_take, Nat.min_self]
/-- 'append(s[:i], s[j:]...)', k elements: in its place. -/
theorem del_app {t e : Nat} {ei : TI} (ht : P.underlying t = some (.slice e)) (he : TI.Ok P e ei) {W : World} {g i j k c e1 : Nat} {fr : Nat × Nat} {cur : Array Value} (hh : W.heap[g]? = some (.cells cur e1 fr)) (hfr : unfr fr cur.size ei.size) (hcs : cur.size = c * ei.size) (hij : i ≤ j) (hjk : j + k ≤ c) (A : Option Addr) (hA : 0 < k → A = some ⟨g, j * ei.size, none⟩)
    (h1 : ∀ u, u ∈ cur.toList.take ((j + k) * ei.size) → u.oneCell' = true) (c2 ty : Nat) :
    ∃ W1 cur1, (Builtin.append_ #[t, t] ty #[.slice (some ⟨g, 0, none⟩) i c, .slice A k c2]).run P W = .ok (.slice (some ⟨g, 0, none⟩) (i + k) c) W1 ∧ W1.heap[g]? = some (.cells cur1 e1 fr) ∧ cur1.size = cur.size ∧
      cur1.toList.take ((i + k) * ei.size) = (cur.toList.take ((j + k) * ei.size)).take (i * ei.size) ++ (cur.toList.take ((j + k) * ei.size)).drop (j * ei.size) ∧ Only W W1 g := by
  obtain ⟨i0, hi0, hz1, hz2, hz0⟩ := he.tinfo
  obtain ⟨sz, hsz⟩ : ∃ sz, sz = ei.size := ⟨_, rfl⟩
  rw [← hsz] at hfr hcs hA h1 hz1 ⊢
  have e1' : (i + k) * sz = i * sz + k * sz := Nat.add_mul _ _ _
  have e2' : (j + k) * sz = j * sz + k * sz := Nat.add_mul _ _ _
  have e3 : (j + k) * sz ≤ c * sz := Nat.mul_le_mul_right _ hjk
  have e4 : i * sz ≤ j * sz := Nat.mul_le_mul_right _ hij
  have hcl : cur.toList.length = cur.size := Array.length_toList
  obtain ⟨news, hnews⟩ : ∃ news, news = (cur.toList.take ((j + k) * sz)).drop (j * sz) := ⟨_, rfl⟩
  have hnl : news.length = k * sz := by rw [hnews, List.length_drop, List.length_take]; omega
  have hone : ∀ u, u ∈ news → u.oneCell' = true := fun u hu => h1 u (by rw [hnews] at hu; exact List.mem_of_mem_drop hu)
  have hS : Src P i0.size t (.slice A k c2) k news W := by
    rw [hz1]
    rcases Nat.eq_zero_or_pos k with h0 | h0
    · subst h0
      have : news = [] := List.length_eq_zero_iff.1 (by rw [hnl, Nat.zero_mul])
      rw [this]
      cases A with
      | none => exact Src.ofNil W ht c2
      | some a => exact Src.ofSlice W ht a 0 c2 [] (by simp) (fun j v hj => by simp at hj) (fun _ h => by cases h)
    · rw [hA h0]
      refine Src.ofSlice W ht _ k c2 news hnl (cellsAt hh (j * sz) news fun q v hq => ?_) hone
      have hql := (List.getElem?_eq_some_iff.1 hq).1
      rw [hnews, List.getElem?_drop, List.getElem?_take, if_pos (by omega)] at hq
      exact hq
  have hrun := run_append_room_src (P := P) W t t ty e i0 ht hi0 g 0 i c (.slice A k c2) k news hS (by omega) (fun q hq => by rw [hz1]; exact cell_some hh (by omega)) (fun q hq => by rw [hz1]; exact unfr_frozen hh hfr (by omega))
  rw [hz1, Nat.zero_add] at hrun
  obtain ⟨cur', h3, h5, h4⟩ := setCells_row news (i * sz) W cur hh
  rw [setAt_eq _ _ _ (by omega)] at h5
  obtain ⟨s1, s2, s3, s4⟩ := setCells_same (b := g) news (i * sz) W
  refine ⟨_, cur', hrun, h3, h4, ?_, s1, s2, s3, by rw [s4]; exact Nat.le_refl _, fun k' _ hk' => setCells_far hk' _ _ _⟩
  rw [h5, ← hnews, List.take_take, Nat.min_eq_left (by omega)]
  exact List.take_left' (by rw [List.length_append, List.length_take]; omega)
end
end Go.AM
