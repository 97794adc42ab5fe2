/- AN ABSTRACT MACHINE, 13: structs and slices made, append. No condition of its own. -/
import Derived.Test.YtbkpmljdmlhmhaaA11
set_option linter.unusedVariables false
set_option linter.unusedSimpArgs false
namespace Go.AM
open Go AM

section
variable {P : Program} {c : Ctx} {hd : Nat → Value} {fp : Nat → List Nat} {m m' : Mem} {w : World} {X : List Nat} {u : Nat → Bool} {A W : List Nat} {v : AV} {τ : TTab}

/-! ### structs -/
theorem fill_foldl : ∀ (vs : List Value) (off j : Nat) (cs : Array Value), ((vs.zipIdx j).foldl (fun (cs : Array Value) (x : Value × Nat) => cs.setIfInBounds (off + x.2) x.1) cs).toList = setAt cs.toList (off + j) vs
  | [], off, j, cs => by simp [Go.AM.setAt]
  | x :: vs, off, j, cs => by
    rw [List.zipIdx_cons, List.foldl_cons, fill_foldl vs off (j + 1), Array.toList_setIfInBounds]
    rfl
theorem fill_step (cs v : Array Value) (off : Nat) : (v.zipIdx.foldl (fun (cs : Array Value) (x : Value × Nat) => cs.setIfInBounds (off + x.2) x.1) cs).toList = setAt cs.toList off v.toList := by
  rw [← Array.foldl_toList, Array.toList_zipIdx]
  exact fill_foldl v.toList off 0 cs
theorem fill_step' (cs v : Array Value) (off : Nat) : (v.zipIdx.foldl (fun (cs : Array Value) (x : Value × Nat) => match x with | (c, j) => cs.setIfInBounds (off + j) c) cs).toList = setAt cs.toList off v.toList := fill_step cs v off
theorem run_places {fs : List Field} (hτ : TTok P τ) (h : ∀ f, f ∈ fs → (τ f.type).isSome = true) (w : World) : (fs.mapM fun f => (do pure (f.offset, ← sizeOf f.type) : Sem (Nat × Nat))).run P w = .ok (fs.map fun f => (f.offset, ((τ f.type).map (·.size)).getD 0)) w := by
  induction fs with
  | nil => simp
  | cons f fs ih =>
    obtain ⟨i, hi⟩ := Option.isSome_iff_exists.1 (h f (by simp))
    have h1 := (hτ _ i hi).size w
    rw [List.mapM_cons]
    simp only [Sem.run_bind, h1, Result.andThen_ok, Sem.run_pure, ih (fun g hg => h g (List.mem_cons_of_mem _ hg)), List.map_cons, hi, Option.map_some, Option.getD_some]
theorem fill_ok {fs : List (Nat × Nat)} {n : Nat} {pl : Nat → Option (Nat × Nat)} (hpl : ∀ i o ft ti, fs[i]? = some (o, ft) → τ ft = some ti → pl i = some (o, ti.size)) : ∀ (ps : List (Nat × AV)) (qs : List (Nat × Value)) (xs : List AV) (cs : Array Value),
    partsOk τ n fs ps = true → qs.length = ps.length → (∀ (j i : Nat) (x : AV), ps[j]? = some (i, x) → ∃ y, qs[j]? = some (i, y) ∧ AVok c hd m w.heap x y) → AVokL c hd m w.heap xs cs.toList → (∀ z, z ∈ cs.toList → z.oneCell' = true) → cs.size = n →
    ∃ cs', Instr.fill pl cs qs = some cs' ∧ AVokL c hd m w.heap (fillA xs (ps.map fun p => (place fs p.1, p.2))) cs'.toList ∧ ∀ z, z ∈ cs'.toList → z.oneCell' = true
  | [], qs, xs, cs, _, hl, _, hx, h1, _ => by
    have : qs = [] := List.length_eq_zero_iff.1 hl
    subst this
    exact ⟨cs, rfl, hx, h1⟩
  | (i, x) :: ps, qs, xs, cs, hp, hl, hq, hx, h1, hn => by
    match qs, hl with
    | q :: qs, hl =>
      obtain ⟨y, hy1, hy2⟩ := hq 0 i x rfl
      have hy : q = (i, y) := by simpa using hy1
      subst hy
      simp only [partsOk, Bool.and_eq_true] at hp
      obtain ⟨hp1, hp2⟩ := hp
      split at hp1
      · rename_i o ft hf
        split at hp1
        · rename_i ti hti
          simp only [Bool.and_eq_true, beq_iff_eq, decide_eq_true_eq] at hp1
          obtain ⟨⟨k1, k2⟩, k3⟩ := hp1
          obtain ⟨c1, c2⟩ := AVok.cells hy2 k1
          have hcl := AVokL.length c1
          rw [Array.length_toList] at hcl
          have hst := fill_step' cs y.cells o
          obtain ⟨cs1, hcs1⟩ : ∃ cs1, cs1 = y.cells.zipIdx.foldl (fun (cs : Array Value) (x : Value × Nat) => match x with | (c, j) => cs.setIfInBounds (o + j) c) cs := ⟨_, rfl⟩
          rw [← hcs1] at hst
          have hsz : cs1.size = n := by rw [← Array.length_toList, hst, setAt_length, Array.length_toList, hn]
          obtain ⟨cs', r1, r2, r3⟩ := fill_ok hpl ps qs (setAt xs o x.cells) cs1 hp2 (by simpa using hl) (fun j i x hj => by simpa using hq (j + 1) i x (by simpa using hj)) (by rw [hst]; exact AVokL.setAt o hx c1)
            (fun z hz => by
              rw [hst] at hz
              rcases mem_setAt _ _ _ z hz with h | h
              · exact h1 z h
              · exact c2 z h) hsz
          refine ⟨cs', ?_, ?_, r3⟩
          · unfold Instr.fill
            rw [hpl i o ft ti hf hti]
            have hno : ¬ ((y.cells.size ≠ ti.size || decide (o + y.cells.size > cs.size)) = true) := by
              have a1 : y.cells.size = ti.size := by omega
              simp [a1]; omega
            simp only [hno, if_false]
            rw [← hcs1]
            exact r1
          · have hplc : place fs i = o := by unfold place; rw [List.getD_eq_getElem?_getD, hf]; rfl
            simp only [List.map_cons, fillA, hplc]
            exact r2
        · simp at hp1
      · simp at hp1
    | [], hl => simp at hl
theorem build_ok (hτ : TTok P τ) {t : Nat} {ps : List (Nat × AV)} {qs : List (Nat × Value)} (hl : qs.length = ps.length) (hq : ∀ (j i : Nat) (x : AV), ps[j]? = some (i, x) → ∃ y, qs[j]? = some (i, y) ∧ AVok c hd m w.heap x y) (hE : Ex P (buildA τ t ps) u m v m' A W) :
    m' = m ∧ ∃ vv, (Instr.build t qs.toArray).run P w = .ok vv w ∧ AVok c hd m w.heap v vv := by
  unfold buildA at hE
  split at hE
  · rename_i fs size byt sh ht
    have hti := hτ t _ ht
    split at hE
    · rename_i hc
      simp only [Bool.and_eq_true] at hc
      obtain ⟨hc1, hc2⟩ := hc
      simp only [Ex] at hE
      obtain ⟨rfl, rfl, _, _⟩ := hE
      obtain ⟨fields, hu, hfs⟩ := hti.struct rfl
      have hty : ∀ f, f ∈ fields.toList → (τ f.type).isSome = true := fun f hf => by
        unfold typesOk at hc1
        rw [List.all_eq_true] at hc1
        exact hc1 (f.offset, f.type) (by rw [← hfs]; exact List.mem_map_of_mem hf)
      obtain ⟨z1, z2⟩ := zeroAV (c := c) (hd := hd) (m := m') (w := w) sh
      have hzc := zeroV_cells hti
      obtain ⟨cs', r1, r2, r3⟩ := fill_ok (c := c) (hd := hd) (m := m') (w := w) (τ := τ) (fs := fs) (n := size) (pl := fun i => ((fields.toList.map fun f => (f.offset, ((τ f.type).map (·.size)).getD 0)).toArray)[i]?) (fun i o ft ti hf hti => by
        rw [← hfs, List.getElem?_map] at hf
        obtain ⟨f, hf1, hf2⟩ := Option.map_eq_some_iff.1 hf
        simp only [Prod.mk.injEq] at hf2
        obtain ⟨rfl, rfl⟩ := hf2
        simp only [List.getElem?_toArray, List.getElem?_map, hf1, Option.map_some, hti, Option.getD_some]) ps qs (sh.map CK.av) (TI.zeroV ⟨.struct fs, size, _, sh⟩).cells hc2 hl hq (by rw [hzc]; exact z1) (by rw [hzc]; exact z2) (by
          rw [← Array.length_toList, hzc, List.length_map]; exact hti.len)
      refine ⟨rfl, .agg cs', ?_, ?_⟩
      · simp only [Instr.build, Sem.run_bind, hti.zeroR, Result.andThen_ok, run_underlying hu, Array.mapM_eq_mapM_toList, Sem.run_map, run_places hτ hty]
        rw [r1]; rfl
      · simp only [AVok]
        exact ⟨cs', rfl, r2, r3⟩
    · simp only [Ex] at hE
  · simp only [Ex] at hE

/-! ### zeros -/
theorem zeroT {h : Heap} {tg : List Value} : ∀ (sh : List CK), OwL h tg (sh.map CK.tr) (sh.map CK.zero) [] ∧ cells1 (sh.map CK.tr)
  | [] => by simp [OwL, cells1]
  | k :: ks => by
    obtain ⟨h1, h2⟩ := zeroT (h := h) (tg := tg) ks
    refine ⟨?_, fun t ht => ?_⟩
    · simp only [List.map_cons, OwL]
      refine ⟨_, _, [], [], rfl, ?_, h1, rfl⟩
      cases k with
      | sc z => cases z <;> simp [CK.tr, CK.zero, Ow]
      | sl sz => simp [CK.tr, CK.zero, Ow, cells1]
      | pt t => simp [CK.tr, CK.zero, Ow, Value.oneCell']
    · rw [List.map_cons] at ht
      rcases List.mem_cons.1 ht with rfl | ht
      · cases k with
        | sc z => cases z <;> rfl
        | sl sz => rfl
        | pt t => rfl
      · exact h2 t ht
def zeroVals (sh : List CK) : Nat → List Value
  | 0 => []
  | n + 1 => sh.map CK.zero ++ zeroVals sh n
theorem zerosT {h : Heap} {tg : List Value} (sh : List CK) : ∀ n, OwL h tg (zeros sh n) (zeroVals sh n) [] ∧ cells1 (zeros sh n) ∧ (zeros sh n).length = n * sh.length
  | 0 => by simp [zeros, zeroVals, OwL, cells1]
  | n + 1 => by
    obtain ⟨h1, h2, h3⟩ := zerosT (h := h) (tg := tg) sh n
    obtain ⟨z1, z2⟩ := zeroT (h := h) (tg := tg) sh
    refine ⟨by simpa [zeros, zeroVals] using OwL.append z1 h1, fun t ht => ?_, ?_⟩
    · simp only [zeros] at ht
      rcases List.mem_append.1 ht with h | h
      · exact z2 t h
      · exact h2 t h
    · simp only [zeros, List.length_append, List.length_map, h3, Nat.succ_mul]; omega
theorem zeroVals_get (sh : List CK) : ∀ (n i : Nat), i < n * sh.length → (zeroVals sh n)[i]? = (sh.map CK.zero)[i % sh.length]?
  | 0, i, h => by omega
  | n + 1, i, h => by
    have hp : 0 < sh.length := by
      rcases Nat.eq_zero_or_pos sh.length with h0 | h0
      · rw [h0] at h; omega
      · exact h0
    simp only [zeroVals]
    by_cases hi : i < sh.length
    · rw [List.getElem?_append_left (by simpa using hi), Nat.mod_eq_of_lt hi]
    · have e1 : i % sh.length = (i - sh.length) % sh.length := Nat.mod_eq_sub_mod (by omega)
      have e2 : i - sh.length < n * sh.length := by
        have h' := h
        rw [Nat.add_mul, Nat.one_mul] at h'
        omega
      rw [List.getElem?_append_right (by simp; omega), List.length_map, zeroVals_get sh n _ e2, e1]
theorem made_take (sh : List CK) (z : Array Value) (hz : z.toList = sh.map CK.zero) (k n : Nat) (hk : n ≤ k) : (madeCells z (k * sh.length)).toList.take (n * sh.length) = zeroVals sh n := by
  have hzs : z.size = sh.length := by rw [← Array.length_toList, hz, List.length_map]
  have hl : (zeroVals sh n).length = n * sh.length := by
    have := (zerosT (h := #[]) (tg := []) sh n)
    rw [OwL.length this.1, this.2.2]
  apply List.ext_getElem?
  intro i
  rw [List.getElem?_take]
  split
  · rename_i hi
    have hp : 0 < sh.length := by
      rcases Nat.eq_zero_or_pos sh.length with h0 | h0
      · rw [h0] at hi; omega
      · exact h0
    have hm : n * sh.length ≤ k * sh.length := Nat.mul_le_mul_right _ hk
    rw [zeroVals_get sh n i hi]
    unfold madeCells
    rw [Array.getElem?_toList, Array.getElem?_map, Array.getElem?_range, if_pos (by omega), Option.map_some, ← hz, Array.getElem?_toList, hzs]
    have : i % sh.length < z.size := by rw [hzs]; exact Nat.mod_lt _ hp
    rw [Array.getElem?_eq_getElem this, getElem!_pos z _ this]
  · rename_i hi
    rw [List.getElem?_eq_none (by omega)]
theorem make_ok (hτ : TTok P τ) (H : HM c hd fp m w X) {t D : Nat} {l cc : AV} {lv cv : Value} (hl : AVok c hd m w.heap l lv) (hc : AVok c hd m w.heap cc cv) (hE : Ex P (makeSliceA τ t l cc D) u m v m' A W) :
    ∃ vv w' hd' fp', (Instr.makeSlice t lv cv).run P w = .ok vv w' ∧ AVok c hd' m' w'.heap v vv ∧ HM c hd' fp' m' w' X ∧ Evo hd m w.heap hd' m' w'.heap := by
  unfold makeSliceA at hE
  split at hE
  · rename_i ei kl l kc cc hei
    obtain ⟨e, hu, he⟩ := elemOf_ok hτ hei
    simp only [AVok] at hl hc
    subst hl; subst hc
    simp only [Ex] at hE
    obtain ⟨⟨b0, b1, b2, b3⟩, hE⟩ := hE
    obtain ⟨g, B, V, hE, hg⟩ := mk_ok hE
    simp only [Ex] at hE
    obtain ⟨rfl, rfl, _, _⟩ := hE
    obtain ⟨I, hI, i1, i2, i3⟩ := he.tinfo
    have hrun := run_make (P := P) w t e I ei.zeroV hu hI i3 kl kc l cc b0 b1 (by rw [i2]; exact b3) b2
    rw [i1] at hrun
    have hzc := zeroV_cells he
    have hz := zerosT (h := w.heap) (tg := c.tags) ei.sh l.toNat
    have hmt := made_take ei.sh ei.zeroV.cells hzc cc.toNat l.toNat (by omega)
    rw [he.len] at hmt
    obtain ⟨H2, E2⟩ := HM.newRow (F := []) (by simpa using H) D (g := g) (v := 0) (sz := ei.size) (n := l.toNat) (cap := cc.toNat) (e := e) (fr := (0, 0)) (cs := zeros ei.sh l.toNat) (cur := madeCells ei.zeroV.cells (cc.toNat * ei.size)) hg (.inl (Nat.le_refl _)) (size_madeCells _ _) (by omega) (by unfold maxL; omega)
      hz.2.1 (by rw [hz.2.2, he.len]) (by rw [hmt]; exact hz.1)
    exact ⟨_, _, _, _, hrun, own_new rfl, H2, E2⟩
  · simp only [Ex] at hE

/-! ### a slice of elements that are written out -/
theorem elsT_ok {α : Type} {y : α} {sh : List CK} : ∀ (ps : List (Nat × AV)) (qs : List (Nat × Value)) (i : Nat) {fp : Nat → List Nat} {m : Mem} {X A W : List Nat} {k : List Tr → AM α}, HM c hd fp m w X → qs.length = ps.length → (∀ (j i : Nat) (x : AV), ps[j]? = some (i, x) → ∃ y, qs[j]? = some (i, y) ∧ AVok c hd m w.heap x y) → Ex P (elsT sh i ps k) u m y m' A W →
    ∃ ts m1 fp1 F A1 W1, Ex P (k ts) u m1 y m' A1 W1 ∧ HM c hd fp1 m1 w (F ++ X) ∧ OwL w.heap c.tags ts (qs.flatMap fun q => q.2.cells.toList) F ∧ cells1 ts ∧ Evo hd m w.heap hd m1 w.heap ∧
      (∀ (j : Nat) q, qs[j]? = some q → q.1 = i + j ∧ q.2.cells.size = sh.length) ∧ ∀ z, z ∈ (qs.flatMap fun q => q.2.cells.toList) → z.oneCell' = true
  | [], qs, i, fp, m, X, A, W, k, H, hl, hq, hE => by
    have : qs = [] := List.length_eq_zero_iff.1 hl
    subst this
    simp only [elsT] at hE
    exact ⟨[], m, fp, [], A, W, hE, H, by simp [OwL], by simp [cells1], Evo.refl _ _ _, fun j q hj => by simp at hj, by simp⟩
  | (j, x) :: ps, qs, i, fp, m, X, A, W, k, H, hl, hq, hE => by
    match qs, hl with
    | q :: qs, hl =>
      obtain ⟨y, hy1, hy2⟩ := hq 0 j x rfl
      have hy : q = (j, y) := by simpa using hy1
      subst hy
      simp only [elsT] at hE
      split at hE
      · rename_i hc
        obtain ⟨rfl, hk⟩ := hc
        obtain ⟨c1, c2⟩ := AVok.cells hy2 hk
        obtain ⟨ts, m1, fp1, F, A1, W1, e1, e2, e3, e4, e5, e6⟩ := toTL_ok _ _ H c1 hE
        obtain ⟨us, m2, fp2, F2, A2, W2, r1, r2, r3, r4, r5, r6, r7⟩ := elsT_ok ps qs (j + 1) e2 (by simpa using hl) (fun k i x hk => by
          obtain ⟨y, k1, k2⟩ := hq (k + 1) i x (by simpa using hk)
          exact ⟨y, by simpa using k1, AVok.evo e5 x k2⟩) e1
        refine ⟨ts ++ us, m2, fp2, F ++ F2, A2, W2, r1, r2.pocket ?_, ?_, ?_, e5.trans r5, ?_, ?_⟩
        · rw [← List.append_assoc]; exact List.perm_append_comm.append_right X
        · rw [List.flatMap_cons]; exact OwL.append e3 r3
        · intro t ht
          rcases List.mem_append.1 ht with h | h
          · exact e4 t h
          · exact r4 t h
        · intro k q hk
          cases k with
          | zero =>
            simp at hk; subst hk
            refine ⟨rfl, ?_⟩
            show y.cells.size = sh.length
            have := OwL.length e3
            rw [Array.length_toList] at this
            omega
          | succ k =>
            obtain ⟨a1, a2⟩ := r6 k q (by simpa using hk)
            exact ⟨by omega, a2⟩
        · intro z hz
          rw [List.flatMap_cons] at hz
          rcases List.mem_append.1 hz with h | h
          · exact c2 z h
          · exact r7 z h
      · simp only [Ex] at hE
    | [], hl => simp at hl
theorem fill_seq {sz : Nat} : ∀ (qs : List (Nat × Value)) (i : Nat) (pre rest : List Value) (cs : Array Value), cs.toList = pre ++ rest → pre.length = i * sz → rest.length = qs.length * sz → (∀ (j : Nat) q, qs[j]? = some q → q.1 = i + j ∧ q.2.cells.size = sz) →
    ∃ cs', Instr.fill (fun i => some (i * sz, sz)) cs qs = some cs' ∧ cs'.toList = pre ++ qs.flatMap fun q => q.2.cells.toList
  | [], i, pre, rest, cs, h1, h2, h3, h4 => by
    have : rest = [] := List.length_eq_zero_iff.1 (by simpa using h3)
    subst this
    exact ⟨cs, rfl, by simpa using h1⟩
  | (j, y) :: qs, i, pre, rest, cs, h1, h2, h3, h4 => by
    obtain ⟨k1, k2⟩ := h4 0 (j, y) rfl
    simp only [Nat.add_zero] at k1 k2
    subst k1
    have hst := fill_step' cs y.cells (j * sz)
    obtain ⟨cs1, hcs1⟩ : ∃ cs1, cs1 = y.cells.zipIdx.foldl (fun (cs : Array Value) (x : Value × Nat) => match x with | (c, k) => cs.setIfInBounds (j * sz + k) c) cs := ⟨_, rfl⟩
    rw [← hcs1, h1, setAt_eq _ _ _ (by rw [List.length_append, Array.length_toList, h2, h3, k2, List.length_cons, Nat.succ_mul]; omega)] at hst
    have t1 : (pre ++ rest).take (j * sz) = pre := List.take_left' h2
    have t2 : (pre ++ rest).drop (j * sz + y.cells.toList.length) = rest.drop sz := by
      rw [Array.length_toList, k2, ← List.drop_drop, List.drop_left' h2]
    rw [t1, t2] at hst
    simp only [List.length_cons, Nat.succ_mul] at h3
    obtain ⟨cs', r1, r2⟩ := fill_seq qs (j + 1) (pre ++ y.cells.toList) (rest.drop sz) cs1 hst (by have hy := Array.length_toList (xs := y.cells); rw [List.length_append, hy, h2, k2, Nat.succ_mul]) (by rw [List.length_drop, h3]; omega) (fun k q hk => by
      obtain ⟨a1, a2⟩ := h4 (k + 1) q (by simpa using hk)
      exact ⟨by omega, a2⟩)
    refine ⟨cs', ?_, by rw [r2, List.flatMap_cons, List.append_assoc]⟩
    unfold Instr.fill
    have hcs : cs.size = j * sz + (qs.length * sz + sz) := by rw [← Array.length_toList, h1, List.length_append, h2, h3]
    have hno : ¬ ((y.cells.size ≠ sz || decide (j * sz + y.cells.size > cs.size)) = true) := by
      simp [k2, hcs]
    simp only [hno, if_false]
    rw [← hcs1]
    exact r1
theorem buildSlice_ok (hτ : TTok P τ) (H : HM c hd fp m w X) {t n D : Nat} {ps : List (Nat × AV)} {qs : List (Nat × Value)} (hl : qs.length = ps.length) (hq : ∀ (j i : Nat) (x : AV), ps[j]? = some (i, x) → ∃ y, qs[j]? = some (i, y) ∧ AVok c hd m w.heap x y) (hE : Ex P (buildSliceA τ t n ps D) u m v m' A W) :
    ∃ vv w' hd' fp', (Instr.buildSlice t n qs.toArray).run P w = .ok vv w' ∧ AVok c hd' m' w'.heap v vv ∧ HM c hd' fp' m' w' X ∧ Evo hd m w.heap hd' m' w'.heap := by
  unfold buildSliceA at hE
  split at hE
  · rename_i ei hei
    obtain ⟨e, hu, he⟩ := elemOf_ok hτ hei
    split at hE
    · rename_i hc
      obtain ⟨hn, hsz, hsn⟩ := hc
      obtain ⟨ts, m1, fp1, F, A1, W1, r1, r2, r3, r4, r5, r6, r7⟩ := elsT_ok ps qs 0 H hl hq hE
      simp only [Ex] at r1
      obtain ⟨g, B, V, hE, hg⟩ := mk_ok r1
      simp only [Ex] at hE
      obtain ⟨rfl, rfl, _, _⟩ := hE
      have hlen := he.len
      rw [hlen] at r6
      -- the array that is filled
      have hqn : qs.length = n := by omega
      obtain ⟨z0, hz0⟩ : ∃ z0 : Array Value, z0 = if n * ei.size = 0 then #[] else ei.zeroV.cells := ⟨_, rfl⟩
      obtain ⟨c0, hc0⟩ : ∃ c0 : Array Value, c0 = (Array.range (n * ei.size)).map (z0[· % z0.size]!) := ⟨_, rfl⟩
      have hc0s : c0.size = n * ei.size := by rw [hc0]; simp
      obtain ⟨cs', q1, q2⟩ := fill_seq (sz := ei.size) qs 0 [] c0.toList c0 rfl (by simp) (by rw [Array.length_toList, hc0s, hqn]) r6
      rw [List.nil_append] at q2
      have hcz : cs'.size = n * ei.size := by
        have := OwL.length r3
        rw [← Array.length_toList, q2]
        clear q1 r3 r4 r7 this
        rw [← hqn]
        clear hqn hsz hc0s hc0 c0 hz0 z0 hn hl hq
        have gen : ∀ (qs : List (Nat × Value)) (i : Nat), (∀ (j : Nat) q, qs[j]? = some q → q.1 = i + j ∧ q.2.cells.size = ei.size) → (qs.flatMap fun q => q.2.cells.toList).length = qs.length * ei.size := by
          intro qs
          induction qs with
          | nil => intro i _; simp
          | cons q qs ih =>
            intro i h
            rw [List.flatMap_cons, List.length_append, ih (i + 1) (fun j q' hj => by
              obtain ⟨a1, a2⟩ := h (j + 1) q' (by simpa using hj)
              exact ⟨by omega, a2⟩), Array.length_toList, (h 0 q rfl).2, List.length_cons, Nat.succ_mul, Nat.add_comm]
        exact gen qs 0 r6
      obtain ⟨H2, E2⟩ := HM.newRow r2 D (g := g) (v := 0) (sz := ei.size) (n := n) (cap := n) (e := e) (fr := (0, 0)) (cs := ts) (cur := cs') hg (.inl (Nat.le_refl _)) hcz (Nat.le_refl _) (by
          unfold maxL
          omega) r4 (by rw [← OwL.length r3, ← q2, Array.length_toList, hcz]) (by
          rw [List.take_of_length_le (by rw [Array.length_toList, hcz]; exact Nat.le_refl _), q2]; exact r3)
      refine ⟨_, _, _, _, ?_, own_new rfl, H2, r5.trans E2⟩
      have hbig : ¬ (n * ei.size > 2 ^ 24) := by
        have : (2 : Nat) ^ 24 = 16777216 := by decide
        omega
      by_cases h0 : n * ei.size = 0
      · have hz1 : z0 = #[] := by rw [hz0, if_pos h0]
        rw [hz1] at hc0
        simp only [Instr.buildSlice, Sem.run_bind, run_underlying hu, Result.andThen_ok, he.size, hbig, if_false, h0, if_true, Sem.run_pure, show ¬ (0 > 2 ^ 24) by decide]
        rw [h0] at hc0
        rw [← hc0, q1]
        rfl
      · have hz1 : z0 = ei.zeroV.cells := by rw [hz0, if_neg h0]
        rw [hz1] at hc0
        simp only [Instr.buildSlice, Sem.run_bind, run_underlying hu, Result.andThen_ok, he.size, hbig, if_false, h0, he.zeroR, Sem.run_pure]
        rw [← hc0, q1]
        rfl
    · simp only [Ex] at hE
  · simp only [Ex] at hE
end
end Go.AM
