/- AN ABSTRACT MACHINE, 11: what a slice holds; cuts; conversions; structs and slices made. No condition of its own. -/
import Derived.Test.YtbkpmljdmlhmhaaA9
set_option linter.unusedVariables false
set_option linter.unusedSimpArgs false
namespace Go.AM
open Go AM

def AV.name : AV → Option Nat
  | .own nm _ | .cut nm _ _ _ | .inn nm _ _ _ _ => some nm
  | _ => none

section
variable {P : Program} {c : Ctx} {hd : Nat → Value} {fp : Nat → List Nat} {m m' : Mem} {w : World} {X : List Nat} {u : Nat → Bool} {A W : List Nat} {v : AV} {τ : TTab}

/-- what is known of a slice that is read: its cells, and what they say -/
def Reads (c : Ctx) (fp : Nat → List Nat) (w : World) (x : AV) (xv : Value) (sz n : Nat) (cs : List Tr) : Prop :=
  ∃ B C vs, xv = .slice B n C ∧ n ≤ C ∧ C ≤ maxL ∧ (cs.length = n * sz ∧ cells1 cs) ∧ vs.length = cs.length ∧
    (cs ≠ [] → ∃ a, B = some a ∧ (∀ j y, vs[j]? = some y → cellAt w.heap (a.add j) = some y) ∧ ((AV.isRo x = true ∧ c.safe a.block) ∨ ∃ nm, x.name = some nm ∧ a.block ∈ fp nm)) ∧
    ((AV.isRo x = true ∧ RdL c.w0.heap c.safe cs vs) ∨ ∃ nm G, x.name = some nm ∧ OwL w.heap c.tags cs vs G ∧ ∀ k, k ∈ G → k ∈ fp nm)

theorem row_reads {x : AV} {nm : Nat} (hn : x.name = some nm) {sz n : Nat} {cs : List Tr} {xv : Value} {F : List Nat} (H : Ow w.heap c.tags (.row sz n cs) xv F) (hF : ∀ k, k ∈ F → k ∈ fp nm) : Reads c fp w x xv sz n cs := by
  simp only [Ow] at H
  obtain ⟨hl, H⟩ := H
  rcases H with ⟨B, rfl, rfl, rfl⟩ | ⟨g, cap, cur, e, fr, G, rfl, h2, h3, h4, h5, h6, h7, rfl⟩
  · have : cs = [] := List.length_eq_zero_iff.1 (by simpa using hl.1)
    subst this
    exact ⟨B, 0, [], rfl, Nat.le_refl _, by unfold maxL; omega, hl, rfl, fun h => absurd rfl h, .inr ⟨nm, [], hn, by simp [OwL], fun k hk => by cases hk⟩⟩
  · refine ⟨_, cap, _, rfl, h5, h6, hl, OwL.length h7, fun _ => ⟨_, rfl, fun j y hj => ?_, .inr ⟨nm, hn, hF _ (by simp)⟩⟩, .inr ⟨nm, G, hn, h7, fun k hk => hF k (by simp [hk])⟩⟩
    rw [add_zero_off, cellAt_of h2, ← Array.getElem?_toList]
    rw [List.getElem?_take] at hj
    split at hj
    · exact hj
    · cases hj

theorem rdRow_ok {α : Type} {y : α} (H : HM c hd fp m w X) {sz : Nat} {x : AV} {xv : Value} {k : Nat → List Tr → AM α} (hx : AVok c hd m w.heap x xv) (hE : Ex P (rdRow sz x k) u m y m' A W) :
    ∃ n cs A1, Ex P (k n cs) u m y m' A1 W ∧ Reads c fp w x xv sz n cs := by
  unfold rdRow at hE
  split at hE
  · simp only [AVok] at hx
    obtain ⟨B, rfl⟩ := hx
    exact ⟨0, [], A, hE, B, 0, [], rfl, Nat.le_refl _, by unfold maxL; omega, by simp [cells1], rfl, fun h => absurd rfl h, .inl ⟨rfl, by simp [RdL]⟩⟩
  · rename_i tg sz' n cs
    split at hE
    · rename_i hs
      subst hs
      simp only [AVok, Rd] at hx
      obtain ⟨⟨hl, B, C, vs, rfl, k1, k2, k3, k4⟩, _⟩ := hx
      refine ⟨n, cs, A, hE, B, C, vs, rfl, k1, k2, hl, RdL.length k3, fun hne => ?_, .inl ⟨rfl, k3⟩⟩
      obtain ⟨a, rfl, hs, hc⟩ := k4 hne
      exact ⟨a, rfl, fun j y hj => (cellAt_frame (by rw [add_block]; exact H.same _ hs)).trans (hc j y hj), .inl ⟨rfl, hs⟩⟩
    · simp only [Ex] at hE
  · rename_i nm g
    obtain ⟨vv, n, cs, B, rfl, hm, hE⟩ := getRow_ok hE
    have hv := own_eq hx hm
    subst hv
    exact ⟨n, cs, B, hE, row_reads rfl (H.blk nm _ hm) (fun k hk => hk)⟩
  · rename_i nm g off n
    obtain ⟨vv, N, cs, B, rfl, hm, hE⟩ := getRow_ok hE
    simp only [Ex] at hE
    refine ⟨n, _, B, hE, ?_⟩
    simp only [AVok] at hx
    obtain ⟨⟨A0, C0, hv0, hv1, hv2⟩, b0, hb0, hg, hk⟩ := hx
    rw [hm] at hb0; injection hb0 with hb0; subst hb0
    obtain ⟨q1, A, C, hv, q2, q3, q4, _⟩ := hk rfl
    have hblk := H.blk nm _ hm
    simp only [BlkOk] at hblk
    have hlc : cs.length = N * sz ∧ cells1 cs := by simp only [Ow] at hblk; exact hblk.1
    have hmul : (off + n) * sz ≤ N * sz := Nat.mul_le_mul_right _ q1
    rw [Nat.add_mul] at hmul
    have hl2 : ((cs.drop (off * sz)).take (n * sz)).length = n * sz := by rw [List.length_take, List.length_drop]; omega
    have h1c : cells1 ((cs.drop (off * sz)).take (n * sz)) := hlc.2.sub (fun t ht => List.mem_of_mem_drop (List.mem_of_mem_take ht))
    rcases Nat.eq_zero_or_pos n with h0 | h0
    · subst h0
      rw [Nat.zero_mul, List.take_zero]
      exact ⟨A, C, [], hv, q2, q3, ⟨by simp, fun t ht => by cases ht⟩, rfl, fun h => absurd rfl h, .inr ⟨nm, [], rfl, by simp [OwL], fun k hk => by cases hk⟩⟩
    · obtain ⟨b, N', C', q5, rfl⟩ := q4 h0
      obtain ⟨b', cap, cur, e, fr, G, k1, k2, k3, k4, k5, k6, k7, k8⟩ := row_block hblk (by omega)
      have hbb : b = b' := by rw [k1] at q5; injection q5 with q5; injection q5 with q5; injection q5 with q5; exact q5.symm
      subst hbb
      obtain ⟨G1, r1⟩ := OwL.drop (off * sz) k7
      obtain ⟨G2, r2⟩ := OwL.take (n * sz) r1
      -- the blocks of a part are blocks of the whole
      have hsub : ∀ {ts : List Tr} {vs : List Value} {F : List Nat} (a b : Nat), OwL w.heap c.tags ts vs F → ∃ G, OwL w.heap c.tags ((ts.drop a).take b) ((vs.drop a).take b) G ∧ ∀ k, k ∈ G → k ∈ F := by
        intro ts vs F a b hh
        have lv := OwL.length hh
        have e1 : ts = ts.take a ++ ((ts.drop a).take b ++ (ts.drop a).drop b) := by rw [List.take_append_drop, List.take_append_drop]
        rw [e1] at hh
        obtain ⟨v1, v2, F1, F2, rfl, rfl, h1, h2⟩ := OwL.split hh
        obtain ⟨v3, v4, F3, F4, rfl, rfl, h3, h4⟩ := OwL.split h2
        have l1 := OwL.length h1
        have l3 := OwL.length h3
        have l4 := OwL.length h4
        rw [List.length_take] at l1
        rw [List.length_take, List.length_drop] at l3
        rw [List.length_drop, List.length_drop] at l4
        refine ⟨F3, ?_, fun k hk => by simp [hk]⟩
        have t1 : (v1 ++ (v3 ++ v4)).drop a = v3 ++ v4 := by
          by_cases h : a ≤ ts.length
          · exact List.drop_left' (by omega)
          · have a1 : v3 = [] := List.length_eq_zero_iff.1 (by omega)
            have a2 : v4 = [] := List.length_eq_zero_iff.1 (by omega)
            subst a1; subst a2
            rw [List.append_nil, List.append_nil]
            exact List.drop_eq_nil_of_le (by omega)
        have t2 : (v3 ++ v4).take b = v3 := by
          by_cases h : b ≤ ts.length - a
          · exact List.take_left' (by omega)
          · have a2 : v4 = [] := List.length_eq_zero_iff.1 (by omega)
            subst a2
            rw [List.append_nil]
            exact List.take_of_length_le (by omega)
        rw [t1, t2]
        exact h3
      obtain ⟨G3, r3, r4⟩ := hsub (off * sz) (n * sz) k7
      refine ⟨_, C, _, hv, q2, q3, ⟨hl2, h1c⟩, OwL.length r3, fun _ => ⟨_, rfl, fun j y hj => ?_, .inr ⟨nm, rfl, by rw [k8]; simp⟩⟩, .inr ⟨nm, G3, rfl, r3, fun k hk => by rw [k8]; exact List.mem_cons_of_mem _ (r4 k hk)⟩⟩
      rw [add_off, cellAt_of k2, ← Array.getElem?_toList]
      rw [List.getElem?_take] at hj
      split at hj
      · rw [List.getElem?_drop, List.getElem?_take] at hj
        split at hj
        · exact hj
        · cases hj
      · cases hj
  · rename_i nm g i j vv
    obtain ⟨sz', N, cs, n2, cs2, B, rfl, hm, hi, hj, hL, hE, g0, cap, cur, e, fr, G, k1, k2, k3, k4, k5, k6, k7, k8, k9, k10, k11⟩ := getInn_ok H hx hE
    rw [el_get _ _ _ _ hj] at hL
    obtain ⟨v0, G1, q1, q2, q3⟩ := OwL.get k7 hL
    rw [k11] at q1; injection q1 with q1; subst q1
    exact ⟨n2, cs2, B, hE, row_reads rfl q2 (fun k hk => by rw [k8]; exact List.mem_cons_of_mem _ (q3 k hk))⟩
  · simp only [Ex] at hE

/-- scalars are theirs who reads them -/
theorem Ow_scal {h : Heap} {tg : List Value} {S : Nat → Prop} {h0 : Heap} : ∀ {cs : List Tr} {vs : List Value}, scal cs → RdL h0 S cs vs → OwL h tg cs vs []
  | [], vs, _, H => by simp only [RdL] at H; simp [OwL, H]
  | t :: ts, vs, hs, H => by
    simp only [RdL] at H
    obtain ⟨x, us, rfl, q1, q2⟩ := H
    simp only [OwL]
    refine ⟨x, us, [], [], rfl, ?_, Ow_scal (fun t' h' => hs t' (List.mem_cons_of_mem _ h')) q2, rfl⟩
    have := hs t (by simp)
    cases t <;> simp [Tr.isSc] at this <;> simp only [Rd] at q1 <;> simp [Ow, q1]
theorem Ow_scal' {h : Heap} {tg : List Value} : ∀ {cs : List Tr} {vs : List Value} {G : List Nat}, scal cs → OwL h tg cs vs G → OwL h tg cs vs []
  | [], vs, G, _, H => by simp only [OwL] at H; simp [OwL, H.1]
  | t :: ts, vs, G, hs, H => by
    simp only [OwL] at H
    obtain ⟨x, us, F1, F2, rfl, q1, q2, _⟩ := H
    simp only [OwL]
    refine ⟨x, us, [], [], rfl, ?_, Ow_scal' (fun t' h' => hs t' (List.mem_cons_of_mem _ h')) q2, rfl⟩
    have := hs t (by simp)
    cases t <;> simp [Tr.isSc] at this <;> simp only [Ow] at q1 <;> simp [Ow, q1.1]

/-! ### a part of a tuple -/
theorem extract_ok {i : Nat} {x : AV} {xv : Value} (hx : AVok c hd m w.heap x xv) (hE : Ex P (match x with
    | .tup cs => match cs[i]? with
      | some x => .ret x
      | none => .fail
    | _ => AM.fail) u m v m' A W) : m' = m ∧ ∃ vv, (Instr.extract xv i).run P w = .ok vv w ∧ AVok c hd m w.heap v vv := by
  cases x <;> simp only [Ex] at hE
  case tup cs =>
    simp only [AVok] at hx
    obtain ⟨vs, rfl, h2⟩ := hx
    split at hE
    · rename_i x hx
      simp only [Ex] at hE
      obtain ⟨rfl, rfl, _, _⟩ := hE
      obtain ⟨vv, q1, q2⟩ := AVokL.get h2 hx
      rw [Array.getElem?_toList] at q1
      exact ⟨rfl, vv, by simp [Instr.extract, q1], q2⟩
    · simp only [Ex] at hE

/-! ### cuts -/
def optInt : Option AV → Option Value → Prop
  | none, none => True
  | some (.int k n), some x => x = .int k n
  | _, _ => False
theorem oint_ok {o : Option AV} {ov : Option Value} {d n : Int} (h : oint o d = some n) (ho : ∀ x, o = some x → ∃ y, ov = some y ∧ AVok c hd m w.heap x y) (hn : o = none → ov = none) : (o = none ∧ ov = none ∧ n = d) ∨ ∃ k, o = some (.int k n) ∧ ov = some (.int k n) := by
  cases o with
  | none => simp only [oint, Option.some.injEq] at h; exact .inl ⟨rfl, hn rfl, h.symm⟩
  | some x =>
    cases x <;> simp only [oint, Option.some.injEq, reduceCtorEq] at h
    subst h
    obtain ⟨y, h1, h2⟩ := ho _ rfl
    simp only [AVok] at h2
    subst h2
    exact .inr ⟨_, rfl, h1⟩
theorem run_bounds {isSlice : Bool} {len cap : Nat} {lo hi : Option AV} {lov hiv : Option Value} {l h : Int} (hl : oint lo 0 = some l) (hh : oint hi len = some h)
    (h1 : ∀ x, lo = some x → ∃ y, lov = some y ∧ AVok c hd m w.heap x y) (h2 : lo = none → lov = none) (h3 : ∀ x, hi = some x → ∃ y, hiv = some y ∧ AVok c hd m w.heap x y) (h4 : hi = none → hiv = none)
    (b0 : 0 ≤ l) (b1 : l ≤ h) (b2 : h ≤ (len : Int)) (b3 : len ≤ cap) : (Instr.sliceBounds isSlice len cap lov hiv none).run P w = .ok (l.toNat, h.toNat, cap) w := by
  have hhn : (h.toNat : Int) = h := Int.toNat_of_nonneg (by omega)
  rcases oint_ok hl h1 h2 with ⟨_, rfl, rfl⟩ | ⟨k, _, rfl⟩ <;> rcases oint_ok hh h3 h4 with ⟨_, rfl, rfl⟩ | ⟨k', _, rfl⟩
  · simp [Instr.sliceBounds]
  · have e1 : (Instr.sliceBound (.int k' h) cap (if isSlice then .sliceAcap else .sliceAlen)).run P w = .ok h.toNat w := run_sliceBound w k' h cap _ (by omega) (by omega)
    simp [Instr.sliceBounds, e1]
  · have e1 : ∀ code, (Instr.sliceBound (.int k l) len code).run P w = .ok l.toNat w := fun code => run_sliceBound w k l len code b0 (by omega)
    simp [Instr.sliceBounds, e1]
  · have e1 : (Instr.sliceBound (.int k' h) cap (if isSlice then .sliceAcap else .sliceAlen)).run P w = .ok h.toNat w := run_sliceBound w k' h cap _ (by omega) (by omega)
    have e2 : ∀ code, (Instr.sliceBound (.int k l) h.toNat code).run P w = .ok l.toNat w := fun code => run_sliceBound w k l h.toNat code b0 (by omega)
    simp [Instr.sliceBounds, e1, e2]
end
end Go.AM
