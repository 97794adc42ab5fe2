/- AN ABSTRACT MACHINE, 8: loads, stores, places, numbers, lengths, cuts. No condition of its own. -/
import Derived.Test.YtbkpmljdmlhmhaaA6
import Derived.Laws.Slices
import Derived.Laws.BytesString
import Derived.Deep.AppendSrc
import Derived.Laws.MakeOwn
import Derived.Deep.Upon
set_option linter.unusedVariables false
set_option linter.unusedSimpArgs false
namespace Go.AM
open Go AM

section
variable {P : Program} {c : Ctx} {hd : Nat → Value} {fp : Nat → List Nat} {m m' : Mem} {w : World} {X : List Nat} {u : Nat → Bool} {A W : List Nat} {v : AV} {τ : TTab}

theorem add_add (a : Addr) (x y : Nat) : (a.add x).add y = a.add (x + y) := by
  unfold Addr.add
  by_cases hx : x = 0
  · subst hx; simp
  · by_cases hy : y = 0
    · subst hy; simp [hx]
    · simp [hx, hy, Nat.add_assoc]

theorem load_ok (hτ : TTok P τ) (H : HM c hd fp m w X) {t : Nat} {x : AV} {xv : Value} (hx : AVok c hd m w.heap x xv) (hE : Ex P (loadA τ t x) u m v m' A W) :
    m' = m ∧ ∃ vv, (Instr.loadAt t xv).run P w = .ok vv w ∧ AVok c hd m w.heap v vv := by
  unfold loadA at hE
  cases ht : τ t with
  | none => rw [ht] at hE; simp only [Ex] at hE
  | some ti =>
    rw [ht] at hE
    have hti := hτ t ti ht
    cases x <;> simp only [Ex] at hE
    case ptr nm g i off =>
      obtain ⟨B, rfl, hE⟩ := hE
      simp only [AVok] at hx
      obtain ⟨h1, b, hb, hg, hk⟩ := hx
      rw [hb] at hE
      have hblk := H.blk nm b hb
      cases b with
      | gone g' => simp only [Ex] at hE
      | lent _ _ _ _ => simp only [Ex] at hE
      | lentB _ _ => simp only [Ex] at hE
      | box g' bt cs =>
        simp only at hE
        split at hE
        · rename_i hc
          obtain ⟨rfl, rfl, hl⟩ := hc
          obtain ⟨_, b, h2, rfl⟩ := hk rfl
          simp only [BlkOk] at hblk
          obtain ⟨b', cur, e, fr, k1, k2, k3, k4, k5, k6⟩ := hblk
          rw [h2] at k1; injection k1 with k1; injection k1 with k1; injection k1 with k1
          subst k1
          have q := AVokL.take ti.size (AVokL.drop off k4)
          have hsz := AVokL.length k4
          obtain ⟨rfl, q2⟩ := one_val hE q (fun y hy => k5 y (List.mem_of_mem_drop (List.mem_of_mem_take hy)))
          refine ⟨rfl, _, ?_, q2⟩
          simp only [Instr.loadAt, Instr.sureAddr, Sem.run_bind, Sem.run_pure, Result.andThen_ok]
          refine run_loadVar hti w _ _ (by rw [List.length_take, List.length_drop]; omega) (fun j y hj => ?_)
          rw [add_off, cellAt_of k2, ← Array.getElem?_toList]
          rw [List.getElem?_take] at hj
          split at hj
          · rwa [List.getElem?_drop] at hj
          · cases hj
        · simp only [Ex] at hE
      | row g' vv sz n cs =>
        simp only at hE
        split at hE
        · rename_i hc
          obtain ⟨rfl, hl⟩ := hc
          simp only [Ex] at hE
          obtain ⟨hi, b, N, C, h2, rfl⟩ := hk rfl
          simp only [BlkOk] at hblk
          obtain ⟨b', cap, cur, e, fr, G, k1, k2, k3, k4, k5, k6, k7, k8⟩ := row_block hblk (by omega)
          have hlen : cs.length = n * sz ∧ cells1 cs := by simp only [Ow] at hblk; exact hblk.1
          have hbb : b = b' := by rw [k1] at h2; injection h2 with h2; injection h2 with h2; injection h2 with h2; exact h2.symm
          subst hbb
          obtain ⟨G1, r1⟩ := OwL.el k7 sz i
          obtain ⟨G2, r2⟩ := OwL.drop off r1
          obtain ⟨G3, r3⟩ := OwL.take ti.size r2
          have hle : i * sz + sz ≤ n * sz := by have := mul_add_lt (sz := sz) (j := sz - 1) hi; have h3 : (i + 1) * sz ≤ n * sz := Nat.mul_le_mul_right _ hi; rw [Nat.succ_mul] at h3; exact h3
          have hn : n * sz ≤ cur.size := by rw [k4]; exact Nat.mul_le_mul_right _ k5
          have hell : (el cs sz i).length = sz := by unfold el; rw [List.length_take, List.length_drop, hlen.1]; omega
          have h1c : cells1 (((el cs sz i).drop off).take ti.size) := hlen.2.sub (fun t ht => by
            have := List.mem_of_mem_drop (List.mem_of_mem_take ht)
            unfold el at this
            exact List.mem_of_mem_drop (List.mem_of_mem_take this))
          have cellF : ∀ k y, ((((((cur.toList.take (n * sz)).drop (i * sz)).take sz)).drop off).take ti.size)[k]? = some y → cellAt w.heap ⟨b, i * sz + off + k, none⟩ = some y := by
            intro k y hk
            rw [List.getElem?_take] at hk
            split at hk
            · rw [List.getElem?_drop, List.getElem?_take, if_pos (by omega), List.getElem?_drop, List.getElem?_take, if_pos (by omega)] at hk
              rw [cellAt_of k2, ← Array.getElem?_toList, Nat.add_assoc]; exact hk
            · cases hk
          have q := elAVs_ok (c := c) hb hi h2 H.tg1 _ off h1c r3 (by rw [List.length_take, List.length_drop, hell]; omega) cellF
          have hone : ∀ y, y ∈ ((((((cur.toList.take (n * sz)).drop (i * sz)).take sz)).drop off).take ti.size) → y.oneCell' = true := by
            intro y hy
            obtain ⟨k, hk⟩ := List.mem_iff_getElem?.1 hy
            have hkl := (List.getElem?_eq_some_iff.1 hk).1
            rw [OwL.length r3] at hkl
            obtain ⟨y', G', e1, e2, _⟩ := OwL.get r3 (List.getElem?_eq_getElem hkl)
            rw [hk] at e1; injection e1 with e1; subst e1
            exact Ow.oneCell (h1c _ (List.getElem_mem _)) H.tg1 e2
          obtain ⟨rfl, q2⟩ := one_val hE q hone
          refine ⟨rfl, _, ?_, q2⟩
          simp only [Instr.loadAt, Instr.sureAddr, Sem.run_bind, Sem.run_pure, Result.andThen_ok]
          refine run_loadVar hti w _ _ (by rw [OwL.length r3, List.length_take, List.length_drop, hell]; omega) (fun j y hj => ?_)
          rw [add_off]
          exact cellF j y hj
        · simp only [Ex] at hE
    case rptr cs =>
      simp only [AVok] at hx
      obtain ⟨a, vs, rfl, hs, h2, h3, h1c⟩ := hx
      split at hE
      · rename_i hl
        obtain ⟨r1, r2⟩ := RdL.av (c := c) (hd := hd) (m := m) (h := w.heap) (h1c.sub (fun t ht => List.mem_of_mem_take ht)) (RdL.take ti.size h2)
        obtain ⟨rfl, q2⟩ := one_val hE r1 r2
        refine ⟨rfl, _, ?_, q2⟩
        simp only [Instr.loadAt, Instr.sureAddr, Sem.run_bind, Sem.run_pure, Result.andThen_ok]
        refine run_loadVar hti w _ _ (by rw [List.length_take, RdL.length h2]; omega) (fun j y hj => ?_)
        rw [List.getElem?_take] at hj
        split at hj
        · exact (cellAt_frame (by rw [add_block]; exact H.same _ hs)).trans (h3 j y hj)
        · cases hj
      · simp only [Ex] at hE

/-! ### cells that are written -/
theorem setCells_row {b e : Nat} {fr : Nat × Nat} : ∀ (vs : List Value) (o : Nat) (w : World) (cur : Array Value), w.heap[b]? = some (.cells cur e fr) →
    ∃ cur' : Array Value, (w.setCells b o vs).heap[b]? = some (.cells cur' e fr) ∧ cur'.toList = setAt cur.toList o vs ∧ cur'.size = cur.size
  | [], o, w, cur, h => ⟨cur, h, rfl, rfl⟩
  | x :: r, o, w, cur, h => by
    have h1 : (w.setCell ⟨b, o, none⟩ x).heap[b]? = some (.cells (cur.setIfInBounds o x) e fr) := by
      simp only [World.setCell, Array.getElem?_modify, if_true]
      rw [h]; rfl
    obtain ⟨cur', h2, h3, h4⟩ := setCells_row r (o + 1) _ _ h1
    exact ⟨cur', h2, by rw [h3, Array.toList_setIfInBounds]; rfl, by rw [h4, Array.size_setIfInBounds]⟩
theorem setCells_far {b k : Nat} (hk : k ≠ b) : ∀ (vs : List Value) (o : Nat) (w : World), (w.setCells b o vs).heap[k]? = w.heap[k]?
  | [], o, w => rfl
  | x :: r, o, w => by
    rw [World.setCells, setCells_far hk r]
    simp only [World.setCell, Array.getElem?_modify]
    rw [if_neg (fun e => hk e.symm)]
theorem setCells_same {b : Nat} : ∀ (vs : List Value) (o : Nat) (w : World), (w.setCells b o vs).os = w.os ∧ (w.setCells b o vs).tape = w.tape ∧ (w.setCells b o vs).output = w.output ∧ (w.setCells b o vs).heap.size = w.heap.size
  | [], o, w => ⟨rfl, rfl, rfl, rfl⟩
  | x :: r, o, w => by
    obtain ⟨h1, h2, h3, h4⟩ := setCells_same (b := b) r (o + 1) (w.setCell ⟨b, o, none⟩ x)
    exact ⟨h1, h2, h3, h4.trans (by simp [World.setCell])⟩
theorem setAt_length {α : Type} : ∀ (xs : List α) (cs : List α) (k : Nat), (setAt cs k xs).length = cs.length
  | [], cs, k => rfl
  | x :: xs, cs, k => by rw [Go.AM.setAt, setAt_length xs, List.length_set]
theorem setAt_take {α : Type} : ∀ (xs : List α) (cs : List α) (k n : Nat), k + xs.length ≤ n → (setAt cs k xs).take n = setAt (cs.take n) k xs
  | [], cs, k, n, h => rfl
  | x :: xs, cs, k, n, h => by
    simp only [List.length_cons] at h
    rw [Go.AM.setAt, Go.AM.setAt, setAt_take xs _ _ _ (by omega), List.take_set]
theorem unfr_frozen {w : World} {b e : Nat} {cur : Array Value} {fr : Nat × Nat} (h : w.heap[b]? = some (.cells cur e fr)) (hf : unfr fr cur.size) {o : Nat} (ho : o < cur.size) : w.frozen? ⟨b, o, none⟩ = false := by
  unfold World.frozen?
  simp only [h]
  simp only [Bool.and_eq_false_iff, decide_eq_false_iff_not]
  rcases hf with h1 | h1 <;> omega
/-- values stored one behind the other -/
theorem run_stores (P : Program) {w : World} {b e : Nat} {cur : Array Value} {fr : Nat × Nat} (h : w.heap[b]? = some (.cells cur e fr)) (hf : unfr fr cur.size) (o : Nat) (vs : List Value) (hl : o + vs.length ≤ cur.size) (h1 : ∀ x, x ∈ vs → x.oneCell' = true) :
    (storeCells ⟨b, o, none⟩ vs).run P w = .ok () (w.setCells b o vs) := by
  have := run_storeCells_cells (P := P) b o vs 0 w (fun j hj => by
    rw [cell_eq, cellAt_of h]
    simp; omega) (fun j hj => unfr_frozen h hf (by omega)) h1
  simpa using this
theorem run_storeVar (hτ : TTok P τ) {t : Nat} {ti : TI} (ht : τ t = some ti) {w : World} {b e : Nat} {cur : Array Value} {fr : Nat × Nat} (h : w.heap[b]? = some (.cells cur e fr)) (hf : unfr fr cur.size) (o : Nat) {y : Value} (hz : y.cells.size = ti.size) (hl : o + ti.size ≤ cur.size) (h1 : ∀ x, x ∈ y.cells.toList → x.oneCell' = true) :
    (Instr.storeAt t (.pointer (some ⟨b, o, none⟩)) y).run P w = .ok () (w.setCells b o y.cells.toList) := by
  have := run_stores P h hf o y.cells.toList (by rw [Array.length_toList]; omega) h1
  have hn : ¬ (y.cells.size ≠ ti.size) := by simp [hz]
  simp only [Instr.storeAt, Instr.sureAddr, storeVar, Sem.run_bind, Sem.run_pure, Result.andThen_ok, (hτ t ti ht).size, hn, if_false, this]

theorem setAt_eq {α : Type} : ∀ (xs cs : List α) (k : Nat), k + xs.length ≤ cs.length → setAt cs k xs = cs.take k ++ xs ++ cs.drop (k + xs.length)
  | [], cs, k, h => by simp [Go.AM.setAt]
  | x :: xs, cs, k, h => by
    simp only [List.length_cons] at h
    have hk : k < cs.length := by omega
    rw [Go.AM.setAt, setAt_eq xs _ (k + 1) (by rw [List.length_set]; omega), List.take_set, List.drop_set_of_lt (by omega)]
    have : (cs.take (k + 1)).set k x = cs.take k ++ [x] := by
      rw [List.take_succ_eq_append_getElem hk, List.set_append]
      simp [List.length_take, Nat.min_eq_left (Nat.le_of_lt hk)]
    rw [this, List.append_assoc, List.append_assoc, List.append_assoc, List.singleton_append, List.cons_append, List.length_cons, show k + 1 + xs.length = k + (xs.length + 1) by omega]
theorem OwL.setAt {h : Heap} {tg : List Value} {ts : List Tr} {us : List Value} {F : List Nat} {cs : List Tr} {vs : List Value} {G : List Nat} (k : Nat) (H : OwL h tg cs vs G) (K : OwL h tg ts us F) (hl : k + ts.length ≤ cs.length) :
    ∃ G1 G2 G3, G = G1 ++ G2 ++ G3 ∧ OwL h tg (setAt cs k ts) (setAt vs k us) (G1 ++ F ++ G3) := by
  have lv := OwL.length H
  have lu := OwL.length K
  have e1 : cs = cs.take k ++ ((cs.drop k).take ts.length ++ cs.drop (k + ts.length)) := by
    rw [← List.drop_drop, List.take_append_drop, List.take_append_drop]
  rw [e1] at H
  obtain ⟨v1, v2, F1, F2, rfl, rfl, h1, h2⟩ := OwL.split H
  obtain ⟨v3, v4, F3, F4, rfl, rfl, h3, h4⟩ := OwL.split h2
  have l1 := OwL.length h1
  have l3 := OwL.length h3
  have l4 := OwL.length h4
  rw [List.length_take] at l1
  rw [List.length_take, List.length_drop] at l3
  rw [List.length_drop] at l4
  refine ⟨F1, F3, F4, by simp, ?_⟩
  rw [setAt_eq ts cs k hl, setAt_eq us _ k (by rw [List.length_append, List.length_append]; omega)]
  have t1 : (v1 ++ (v3 ++ v4)).take k = v1 := List.take_left' (by omega)
  have t2 : (v1 ++ (v3 ++ v4)).drop (k + us.length) = v4 := by
    rw [← List.append_assoc]; exact List.drop_left' (by rw [List.length_append]; omega)
  rw [t1, t2]
  exact OwL.append (OwL.append h1 K) h4

/-! ### a store -/
theorem upEl_setAt (cs : List Tr) (sz i off : Nat) (ts : List Tr) (h1 : off + ts.length ≤ sz) (h2 : (i + 1) * sz ≤ cs.length) : upEl cs sz i (setAt (el cs sz i) off ts) = setAt cs (i * sz + off) ts := by
  have e1 : (i + 1) * sz = i * sz + sz := Nat.succ_mul _ _
  have hl : (el cs sz i).length = sz := by unfold el; rw [List.length_take, List.length_drop]; omega
  rw [setAt_eq ts _ off (by omega), setAt_eq ts cs (i * sz + off) (by omega)]
  unfold upEl el
  have a1 : ((cs.drop (i * sz)).take sz).take off = (cs.drop (i * sz)).take off := by rw [List.take_take, Nat.min_eq_left (by omega)]
  have a2 : cs.take (i * sz) ++ (cs.drop (i * sz)).take off = cs.take (i * sz + off) := (List.take_add ..).symm
  have a3 : ((cs.drop (i * sz)).take sz).drop (off + ts.length) ++ cs.drop (i * sz + sz) = cs.drop (i * sz + off + ts.length) := by
    rw [List.drop_take, List.drop_drop]
    have : cs.drop (i * sz + sz) = (cs.drop (i * sz + (off + ts.length))).drop (sz - (off + ts.length)) := by rw [List.drop_drop]; congr 1; omega
    rw [this, List.take_append_drop, Nat.add_assoc]
  rw [a1, ← a3, ← a2]
  simp [List.append_assoc]
theorem cells1.setAt {cs ts : List Tr} {k : Nat} (h1 : cells1 cs) (h2 : cells1 ts) : cells1 (setAt cs k ts) := by
  induction ts generalizing cs k with
  | nil => exact h1
  | cons t ts ih =>
    rw [Go.AM.setAt]
    refine ih (fun x hx => ?_) (fun x hx => h2 x (List.mem_cons_of_mem _ hx))
    rcases List.mem_or_eq_of_mem_set hx with h | h
    · exact h1 x h
    · rw [h]; exact h2 t (by simp)
theorem mem_setAt {α : Type} : ∀ (xs cs : List α) (k : Nat) (x : α), x ∈ setAt cs k xs → x ∈ cs ∨ x ∈ xs
  | [], cs, k, x, h => .inl h
  | y :: xs, cs, k, x, h => by
    rw [Go.AM.setAt] at h
    rcases mem_setAt xs _ _ x h with h | h
    · rcases List.mem_or_eq_of_mem_set h with h | h
      · exact .inl h
      · exact .inr (by simp [h])
    · exact .inr (List.mem_cons_of_mem _ h)

theorem store_ok (hτ : TTok P τ) (H : HM c hd fp m w X) {t : Nat} {x y : AV} {xv yv : Value} (hx : AVok c hd m w.heap x xv) (hy : AVok c hd m w.heap y yv) (hE : Ex P (storeA τ t x y) u m v m' A W) :
    v = .any ∧ ∃ w' hd' fp', (Instr.storeAt t xv yv).run P w = .ok () w' ∧ HM c hd' fp' m' w' X ∧ Evo hd m w.heap hd' m' w'.heap := by
  have same : ∀ nm, upd hd nm (hd nm) = hd := fun nm => by funext k; unfold upd; split <;> simp_all
  unfold storeA at hE
  cases ht : τ t with
  | none => rw [ht] at hE; simp only [Ex] at hE
  | some ti =>
    rw [ht] at hE
    have hti := hτ t ti ht
    cases x <;> simp only [Ex] at hE
    case ptr nm g i off =>
      obtain ⟨B, rfl, hE⟩ := hE
      have hx0 := hx
      simp only [AVok] at hx
      obtain ⟨h1, b, hb, hg, hk⟩ := hx
      rw [hb] at hE
      have hblk := H.blk nm b hb
      cases b with
      | gone g' => simp only [Ex] at hE
      | lent _ _ _ _ => simp only [Ex] at hE
      | lentB _ _ => simp only [Ex] at hE
      | box g' bt cs =>
        simp only at hE
        split at hE
        · rename_i hc
          obtain ⟨rfl, rfl, hkn, hyl, hl⟩ := hc
          obtain ⟨_, b, h2, rfl⟩ := hk rfl
          simp only [Ex] at hE
          obtain ⟨_, _, _, _, rfl, rfl, _, _⟩ := hE
          simp only [BlkOk] at hblk
          obtain ⟨b', cur, e, fr, k1, k2, k3, k4, k5, k6⟩ := hblk
          rw [h2] at k1; injection k1 with k1; injection k1 with k1; injection k1 with k1
          subst k1
          obtain ⟨c1, c2⟩ := AVok.cells hy hkn
          have hcl := AVokL.length c1
          have hsz := AVokL.length k4
          rw [Array.length_toList] at hcl hsz
          have hrun := run_storeVar hτ ht k2 k3 off (y := yv) (by omega) (by omega) c2
          obtain ⟨cur', q1, q2, q3⟩ := setCells_row yv.cells.toList off w cur k2
          obtain ⟨s1, s2, s3, s4⟩ := setCells_same (b := b) yv.cells.toList off w
          have hmem : b ∈ fp nm := by rw [k6]; simp
          have st := HM.step (w := w) (Y := []) (X := X) (w' := w.setCells b off yv.cells.toList) (by simpa using H) nm (blk := .box g' bt (setAt cs off y.cells)) (v := hd nm) (F := [b]) (Y' := []) s1 s2 s3 (by rw [s4]; exact Nat.le_refl _)
            (fun k _ hk1 _ => setCells_far (fun e => hk1 (by rw [e]; exact hmem)) _ _ _) (by simp) (fun k hk => .inl (by simp at hk; rw [hk]; exact hmem)) (fun k hk => by cases hk)
            (fun b0 h0 => by
              rw [hb] at h0; injection h0 with h0; subst h0
              exact ⟨Nat.le_refl _, fun _ => rfl⟩)
            (fun E => by
              simp only [BlkOk, upd_same]
              refine ⟨b, cur', e, fr, h2, q1, by rw [q3]; exact k3, ?_, ?_, rfl⟩
              · rw [q2]; exact AVokL.setAt off (AVokL.evo E cs k4) (AVokL.evo E y.cells c1)
              · intro z hz
                rw [q2] at hz
                rcases mem_setAt _ _ _ z hz with h | h
                · exact k5 z h
                · exact c2 z h)
          rw [same] at st
          exact ⟨rfl, _, _, _, hrun, by simpa using st.1, st.2⟩
        · simp only [Ex] at hE
      | row g' vv sz n cs =>
        simp only at hE
        split at hE
        · simp only [Ex] at hE
        · rename_i hkn
          have hkn' : y.known = true := by simpa using hkn
          obtain ⟨c1, c2⟩ := AVok.cells hy hkn'
          obtain ⟨ts, m1, fp1, F, A1, W1, e1, e2, e3, e4, e5, e6⟩ := toTL_ok _ _ H c1 hE
          simp only [Ex] at e1
          obtain ⟨B1, _, e1⟩ := e1
          have hx1 := AVok.evo e5 _ hx0
          simp only [AVok] at hx1
          obtain ⟨_, b1, hb1, hg1, hk1⟩ := hx1
          rw [hb1] at e1
          cases b1 with
          | box _ _ _ => simp only [Ex] at e1
          | gone _ => simp only [Ex] at e1
          | lent _ _ _ _ => simp only [Ex] at e1
          | lentB _ _ => simp only [Ex] at e1
          | row g2 v2 sz2 n2 cs2 =>
            simp only at e1
            split at e1
            · rename_i hc
              obtain ⟨rfl, hl⟩ := hc
              simp only [Ex] at e1
              obtain ⟨_, _, _, _, rfl, rfl, _, _⟩ := e1
              obtain ⟨hi, b, N, C, h2, rfl⟩ := hk1 rfl
              have hblk1 := e2.blk nm _ hb1
              simp only [BlkOk] at hblk1
              obtain ⟨b', cap, cur, e, fr, G, k1, k2, k3, k4, k5, k6, k7, k8⟩ := row_block hblk1 (by omega)
              have hlen : cs2.length = n2 * sz2 ∧ cells1 cs2 := by simp only [Ow] at hblk1; exact hblk1.1
              have hbb : b = b' := by rw [k1] at h2; injection h2 with h2; injection h2 with h2; injection h2 with h2; exact h2.symm
              subst hbb
              have tl : ts.length = ti.size := e6.trans hti.len
              have hvl := OwL.length e3
              rw [Array.length_toList] at hvl
              have hle : i * sz2 + sz2 ≤ n2 * sz2 := by have h3 : (i + 1) * sz2 ≤ n2 * sz2 := Nat.mul_le_mul_right _ hi; rw [Nat.succ_mul] at h3; exact h3
              have hncap : n2 * sz2 ≤ cur.size := by rw [k4]; exact Nat.mul_le_mul_right _ k5
              have hrun := run_storeVar hτ ht k2 k3 (i * sz2 + off) (y := yv) (by omega) (by omega) c2
              obtain ⟨cur', q1, q2, q3⟩ := setCells_row yv.cells.toList (i * sz2 + off) w cur k2
              obtain ⟨s1, s2, s3, s4⟩ := setCells_same (b := b) yv.cells.toList (i * sz2 + off) w
              obtain ⟨G1, G2, G3, p1, p2⟩ := OwL.setAt (i * sz2 + off) k7 e3 (by rw [hlen.1]; omega)
              have hnd1 := e2.nd nm
              rw [k8] at hnd1
              have hbG : b ∉ G := (List.nodup_cons.1 hnd1).1
              have hGn : G.Nodup := (List.nodup_cons.1 hnd1).2
              have hFG : ∀ k, k ∈ F → k ∉ fp1 nm := fun k hk hk2 => e2.xd nm k hk2 (List.mem_append_left _ hk)
              have hbF : b ∉ F := fun hk => hFG b hk (by rw [k8]; simp)
              have hFn : F.Nodup := (List.nodup_append.1 e2.xnd).1
              have hmemG : ∀ k, k ∈ G1 ∨ k ∈ G3 → k ∈ G := fun k hk => by rw [p1]; simp; rcases hk with h | h <;> simp [h]
              have hsub : ∀ k, k ∈ G1 ++ F ++ G3 → k ∈ G ∨ k ∈ F := fun k hk => by
                rw [List.mem_append, List.mem_append] at hk
                rcases hk with (h | h) | h
                · exact .inl (hmemG k (.inl h))
                · exact .inr h
                · exact .inl (hmemG k (.inr h))
              have hnb : b ∉ G1 ++ F ++ G3 := fun hk => by
                rcases hsub b hk with h | h
                · exact hbG h
                · exact hbF h
              have hnew : (G1 ++ F ++ G3).Nodup := by
                rw [p1, List.nodup_append, List.nodup_append] at hGn
                obtain ⟨⟨a1, a2, a3⟩, a4, a5⟩ := hGn
                rw [List.nodup_append, List.nodup_append]
                refine ⟨⟨a1, hFn, fun x hx z hz he => ?_⟩, a4, fun x hx z hz he => ?_⟩
                · subst he; exact hFG x hz (by rw [k8]; exact List.mem_cons_of_mem _ (hmemG x (.inl hx)))
                · subst he
                  rcases List.mem_append.1 hx with h | h
                  · exact a5 x (List.mem_append_left _ h) x hz rfl
                  · exact hFG x h (by rw [k8]; exact List.mem_cons_of_mem _ (hmemG x (.inr hz)))
              have hcs : upEl cs2 sz2 i (setAt (el cs2 sz2 i) off ts) = setAt cs2 (i * sz2 + off) ts := upEl_setAt cs2 sz2 i off ts (by omega) (by rw [hlen.1, Nat.succ_mul]; exact hle)
              have st := HM.step (w := w) (Y := F) (X := X) (w' := w.setCells b (i * sz2 + off) yv.cells.toList) e2 nm (blk := .row g2 (v2 + 1) sz2 n2 (upEl cs2 sz2 i (setAt (el cs2 sz2 i) off ts))) (v := hd nm) (F := b :: (G1 ++ F ++ G3)) (Y' := []) s1 s2 s3 (by rw [s4]; exact Nat.le_refl _)
                (fun k _ hk1 _ => setCells_far (fun e => hk1 (by rw [e, k8]; simp)) _ _ _)
                (by rw [List.append_nil]; exact List.nodup_cons.2 ⟨hnb, hnew⟩)
                (fun k hk => by
                  rw [List.append_nil] at hk
                  rcases List.mem_cons.1 hk with rfl | hk
                  · exact .inl (by rw [k8]; simp)
                  · rcases hsub k hk with h | h
                    · exact .inl (by rw [k8]; exact List.mem_cons_of_mem _ h)
                    · exact .inr (.inl h))
                (fun k hk => by cases hk)
                (fun b0 h0 => by
                  rw [hb1] at h0; injection h0 with h0; subst h0
                  exact ⟨Nat.le_refl _, fun _ => ⟨rfl, rfl, rfl, Nat.le_succ _, fun hv => by omega⟩⟩)
                (fun E => by
                  simp only [BlkOk, upd_same, Ow]
                  rw [hcs]
                  refine ⟨⟨by rw [setAt_length]; exact hlen.1, hlen.2.setAt e4⟩, .inr ⟨b, cap, cur', e, fr, G1 ++ F ++ G3, k1, q1, by rw [q3]; exact k3, by rw [q3]; exact k4, k5, k6, ?_, rfl⟩⟩
                  rw [q2, setAt_take _ _ _ _ (by rw [Array.length_toList]; omega)]
                  exact OwL.frame _ p2 (fun k hk => setCells_far (fun e => hnb (by rw [← e]; exact hk)) _ _ _))
              rw [same] at st
              exact ⟨rfl, _, _, _, hrun, by simpa using st.1, e5.trans st.2⟩
            · simp only [Ex] at e1
end
end Go.AM
