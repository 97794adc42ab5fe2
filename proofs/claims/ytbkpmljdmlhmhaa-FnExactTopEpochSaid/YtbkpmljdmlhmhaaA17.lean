/- AN ABSTRACT MACHINE, 18: regions: operations in their order, and in any that the machine may draw. No condition of its own. -/
import Derived.Test.YtbkpmljdmlhmhaaA16
set_option linter.unusedVariables false
set_option linter.unusedSimpArgs false
namespace Go.AM
open Go AM

/-- the machine's state is as s says -/
def Holds (c : Ctx) (gv : List Value) (N : Nat) (s : AState) (a : Act) (w : World) : Prop :=
  ∃ hd fp, HM c hd fp s.mem w [] ∧ Rel c hd s.mem w.heap s.tm a ∧ AVokL c hd s.mem w.heap s.gs gv ∧ a.defers = [] ∧ a.tmps.size = N
theorem put_size (a : Act) (d : Option Nat) (v : Value) : (a.put d v).tmps.size = a.tmps.size := by cases d <;> simp [Act.put]
theorem put_defers' (a : Act) (d : Option Nat) (v : Value) : (a.put d v).defers = a.defers := by cases d <;> rfl
theorem wpo_ex {P : Program} {α : Type} : ∀ {p : AM α} {m : Mem} {L : α → Mem → Prop}, wpo P p m L → ∀ u, ∃ v m' A W, Ex P p u m v m' A W ∧ L v m'
  | .ret v, m, L, h, u => ⟨v, m, [], [], by simp [Ex], h⟩
  | .fail, m, L, h, u => h.elim
  | .req p k, m, L, h, u => by
    obtain ⟨v, m', A, W, e, l⟩ := wpo_ex h.2 u
    exact ⟨v, m', A, W, ⟨h.1, e⟩, l⟩
  | .pick k, m, L, h, u => by
    obtain ⟨v, m', A, W, e, l⟩ := wpo_ex (h (u 0)) (fun i => u (i + 1))
    exact ⟨v, m', A, W, e, l⟩
  | .look l k, m, L, h, u => by
    obtain ⟨v, m', A, W, e, l⟩ := wpo_ex (p := k l) h u
    exact ⟨v, m', A, W, e, l⟩
  | .get nm k, m, L, h, u => by
    obtain ⟨v, m', A, W, e, l⟩ := wpo_ex (p := k (m nm)) h u
    exact ⟨v, m', nm :: A, W, ⟨A, rfl, e⟩, l⟩
  | .set nm b k, m, L, h, u => by
    obtain ⟨v, m', A, W, e, l⟩ := wpo_ex (p := k) h u
    exact ⟨v, m', nm :: A, nm :: W, ⟨A, W, rfl, rfl, e⟩, l⟩
  | .call f pas k, m, L, h, u => by
    obtain ⟨res, pbs, g, h⟩ := h
    obtain ⟨v, m', A, W, e, l⟩ := wpo_ex h u
    exact ⟨v, m', A, W, ⟨res, pbs, g, e⟩, l⟩

section
variable {E : Env} {c : Ctx} {gv : List Value} {N : Nat} {s : AState} {a : Act} {w : World} {all : Array Oper}

/-- what an operation does, in the whole -/
theorem oper_ok (hτ : TTok E.P E.τ) {o : Oper} {L : AV → Mem → Prop} (hN : ∀ d, o.dst = some d → d < N) (H : Holds c gv N s a w) (h : wpo E.P (AM.osem E.τ E.md o (evA s.tm) (baseOf o.dst)) s.mem L)
    {next : Act → World → Prop} {Q : Exit → Act → World → Prop} (hn : ∀ v m a' w', L v m → Holds c gv N ⟨putA s.tm o.dst v, m, s.gs⟩ a' w' → next a' w') : o.wp E.P a w next Q := by
  obtain ⟨hd, fp, h1, h2, h3, h4, h5⟩ := H
  obtain ⟨u, hu⟩ := osem_u (md := E.md) (o := o) (D := baseOf o.dst) hτ h1 (fun x => evA_ok h2 x)
  obtain ⟨v, m', A, W, e, l⟩ := wpo_ex h u
  refine hu v m' A W e next Q fun vv w' hd' fp' k1 k2 k3 => hn v m' _ _ l ?_
  exact ⟨hd', fp', k2, Rel.put (Rel.evo k3 h2) k1 (fun d hd => by rw [h5]; exact hN d hd), AVokL.evo k3 _ h3, (put_defers' a _ vv).trans h4, (put_size a _ vv).trans h5⟩
theorem skip_ok {d : Option Nat} (hN : ∀ k, d = some k → k < N) (H : Holds c gv N s a w) : Holds c gv N ⟨putA s.tm d (.tup []), s.mem, s.gs⟩ (a.put d undef) w := by
  obtain ⟨hd, fp, h1, h2, h3, h4, h5⟩ := H
  exact ⟨hd, fp, h1, Rel.put h2 (by simp [AVok, AVokL, undef]) (fun d hd => by rw [h5]; exact hN d hd), h3, (put_defers' a _ _).trans h4, (put_size a _ _).trans h5⟩
theorem gdv_ok {j : Nat} {b : Bool} (H : Holds c gv N s a w) (hg : gdv all s.tm j = .bool b) : yielded all a.tmps j = some b := by
  obtain ⟨hd, fp, h1, h2, h3, h4, h5⟩ := H
  unfold gdv at hg
  unfold yielded
  cases ht : (all[j]?).bind (·.dst) with
  | none => rw [ht] at hg; cases hg
  | some t =>
    rw [ht] at hg
    simp only at hg
    have := h2 t
    rw [hg] at this
    simp only [AVok] at this
    rw [Array.getD_eq_getD_getElem?] at this
    simp only [Option.bind_some]
    cases hx : a.tmps[t]? with
    | none => rw [hx] at this; simp [undef] at this
    | some x => rw [hx] at this; simp only [Option.getD_some] at this; rw [this]
theorem gdv_none {j : Nat} (H : Holds c gv N s a w) (hg : gdv all s.tm j = .tup []) : yielded all a.tmps j = none := by
  obtain ⟨hd, fp, h1, h2, h3, h4, h5⟩ := H
  unfold gdv at hg
  unfold yielded
  cases ht : (all[j]?).bind (·.dst) with
  | none => rfl
  | some t =>
    rw [ht] at hg
    simp only at hg
    have := h2 t
    rw [hg] at this
    simp only [AVok] at this
    obtain ⟨vs, this, _⟩ := this
    rw [Array.getD_eq_getD_getElem?] at this
    simp only [Option.bind_some]
    cases hx : a.tmps[t]? with
    | none => rfl
    | some x => rw [hx] at this; simp only [Option.getD_some] at this; rw [this]
theorem guard_none {o : Oper} {j : Nat} {want : Bool} (ho : o.guard = some (j, want)) (H : Holds c gv N s a w) (hg : gdv all s.tm j = .tup []) : Region.wanted o (yielded all a.tmps) = false := by
  unfold Region.wanted
  rw [ho]
  simp only [gdv_none H hg]
  rfl
theorem guard_ok {o : Oper} {j : Nat} {want b : Bool} (ho : o.guard = some (j, want)) (H : Holds c gv N s a w) (hg : gdv all s.tm j = .bool b) : Region.wanted o (yielded all a.tmps) = (b == want) := by
  unfold Region.wanted
  rw [ho]
  simp only [gdv_ok H hg]
  cases b <;> cases want <;> rfl

/-! ### operations in their order -/
theorem aops_ok (hτ : TTok E.P E.τ) {K : AState → Prop} {Q : Exit → Act → World → Prop} (hK : ∀ s a w, K s → Holds c gv N s a w → Q .normal a w) (hN : ∀ o, o ∈ all.toList → ∀ d, o.dst = some d → d < N) :
    ∀ (n k : Nat) {s a w}, k + n = all.size → aops E all K (all.toList.drop k) s → Holds c gv N s a w → wpOps E.P all Q (List.range' k n) a w
  | 0, k, s, a, w, hk, h, H => by
    rw [List.drop_eq_nil_of_le (by simp; omega)] at h
    simp only [List.range'_zero, wpOps]
    exact hK s a w h H
  | n + 1, k, s, a, w, hk, h, H => by
    have hlt : k < all.toList.length := by simp; omega
    have ho : all[k]? = some all.toList[k] := by rw [← Array.getElem?_toList]; exact List.getElem?_eq_getElem hlt
    rw [List.drop_eq_getElem_cons hlt] at h
    have hmem : all.toList[k] ∈ all.toList := List.getElem_mem hlt
    generalize all.toList[k] = o at *
    simp only [List.range'_succ, wpOps, ho]
    have go : wpo E.P (AM.osem E.τ E.md o (evA s.tm) (baseOf o.dst)) s.mem (fun v m => aops E all K (all.toList.drop (k + 1)) ⟨putA s.tm o.dst v, m, s.gs⟩) → o.wp E.P a w (wpOps E.P all Q (List.range' (k + 1) n)) Q := fun h =>
      oper_ok hτ (hN o hmem) H h fun v m a' w' hl hh => aops_ok hτ hK hN n (k + 1) (by omega) hl hh
    unfold aops at h
    split at h
    · rename_i hg
      have : Region.wanted o (yielded all a.tmps) = true := by unfold Region.wanted; rw [hg]
      rw [this, if_pos rfl]
      exact .inl (go h)
    · rename_i j want hg
      unfold guardW at h
      split at h
      · rename_i b hb
        rw [guard_ok hg H hb]
        cases hc : (b == want) with
        | true => rw [if_pos rfl]; exact .inl (go (h.1 (by simpa using hc)))
        | false =>
          rw [if_neg (by simp)]
          exact aops_ok hτ hK hN n (k + 1) (by omega) (h.2 (by intro e; subst e; simp at hc)) (skip_ok (hN o hmem) H)
      · rename_i hb
        rw [guard_none hg H hb, if_neg (by simp)]
        exact aops_ok hτ hK hN n (k + 1) (by omega) h (skip_ok (hN o hmem) H)
      · exact h.elim

/-! ### in any order -/
def direct (all : Array Oper) (i : Nat) : List Nat :=
  match all[i]? with
  | some o => (o.after.toList.filter (Region.binds .any)).map (·.on)
  | none => []
def dedup : List Nat → List Nat
  | [] => []
  | x :: xs => if xs.contains x then dedup xs else x :: dedup xs
theorem mem_dedup {x : Nat} : ∀ {xs : List Nat}, x ∈ dedup xs ↔ x ∈ xs
  | [] => by simp [dedup]
  | y :: ys => by
    unfold dedup
    split
    · rename_i h
      rw [mem_dedup, List.mem_cons]
      constructor
      · exact .inr
      · rintro (rfl | h2)
        · simpa using h
        · exact h2
    · rw [List.mem_cons, List.mem_cons, mem_dedup]
/-- the same, each once; T: those of the first -/
def ancT (all : Array Oper) : Nat → Nat → List (List Nat) → List (List Nat)
  | 0, i, T => T
  | n + 1, i, T => ancT all n (i + 1) (T ++ [dedup ((direct all i).flatMap fun j => j :: T.getD j [])])
def looseAt (i : Nat) (A : List Nat) : Nat → List (Nat × Nat)
  | 0 => []
  | j + 1 => if A.contains j then looseAt i A j else (j, i) :: looseAt i A j
def looseL : Nat → List (List Nat) → List (Nat × Nat)
  | _, [] => []
  | i, A :: T => looseAt i A i ++ looseL (i + 1) T
/-- the pairs of which either may come first -/
def loose (all : Array Oper) : List (Nat × Nat) := looseL 0 (ancT all all.size 0 [])
def apartAt (all : Array Oper) (p : Nat × Nat) : Bool :=
  match all[p.1]?, all[p.2]? with
  | some x, some y => Oper.apart all x y
  | _, _ => false
def ordOk (all : Array Oper) : Bool := ((List.range all.size).all fun i => (direct all i).all fun j => decide (j < i)) && (loose all).all (apartAt all)
def disjB (xs ys : List Nat) : Bool := xs.all fun k => !ys.contains k
def logOk (all : Array Oper) (lg : List (List Nat × List Nat)) : Bool :=
  (loose all).all fun p => disjB (lg.getD p.1 ([], [])).2 (lg.getD p.2 ([], [])).1 && disjB (lg.getD p.2 ([], [])).2 (lg.getD p.1 ([], [])).1

/-- as wpo, with a log; nothing is to be picked -/
def wpoL (P : Program) : AM AV → Mem → List Nat → List Nat → (AV → Mem → List Nat → List Nat → Prop) → Prop
  | .ret v, m, A, W, L => L v m A W
  | .fail, m, A, W, L => False
  | .req p k, m, A, W, L => p ∧ wpoL P k m A W L
  | .pick k, m, A, W, L => False
  | .look l k, m, A, W, L => wpoL P (k l) m A W L
  | .get nm k, m, A, W, L => wpoL P (k (m nm)) m (nm :: A) W L
  | .set nm b k, m, A, W, L => wpoL P k (upd m nm (some b)) (nm :: A) (nm :: W) L
  | .call f pas k, m, A, W, L => ∃ res pbs, AGood P f pas res pbs ∧ wpoL P (k res pbs) m A W L
def aopsD (E : Env) (all : Array Oper) (K : AState → Prop) : List Oper → AState → List (List Nat × List Nat) → Prop
  | [], s, lg => logOk all lg.reverse = true ∧ K s
  | o :: r, s, lg => match o.guard with
    | none => wpoL E.P (AM.osem E.τ E.md o (evA s.tm) (baseOf o.dst)) s.mem [] [] fun v m A W => aopsD E all K r ⟨putA s.tm o.dst v, m, s.gs⟩ ((A, W) :: lg)
    | some (j, want) => guardW (gdv all s.tm j) want (wpoL E.P (AM.osem E.τ E.md o (evA s.tm) (baseOf o.dst)) s.mem [] [] fun v m A W => aopsD E all K r ⟨putA s.tm o.dst v, m, s.gs⟩ ((A, W) :: lg)) (aopsD E all K r ⟨putA s.tm o.dst (.tup []), s.mem, s.gs⟩ (([], []) :: lg))

theorem wpoL_ex {P : Program} : ∀ {p : AM AV} {m : Mem} {A0 W0 : List Nat} {L : AV → Mem → List Nat → List Nat → Prop}, wpoL P p m A0 W0 L → ∃ v m' A W A1 W1, (∀ u, Ex P p u m v m' A W) ∧ L v m' A1 W1 ∧ (∀ k, k ∈ A ∨ k ∈ A0 → k ∈ A1) ∧ (∀ k, k ∈ W ∨ k ∈ W0 → k ∈ W1)
  | .ret v, m, A0, W0, L, h => ⟨v, m, [], [], A0, W0, fun u => by simp [Ex], h, by simp, by simp⟩
  | .fail, m, A0, W0, L, h => h.elim
  | .req p k, m, A0, W0, L, h => by
    obtain ⟨v, m', A, W, A1, W1, e, l⟩ := wpoL_ex h.2
    exact ⟨v, m', A, W, A1, W1, fun u => ⟨h.1, e u⟩, l⟩
  | .pick k, m, A0, W0, L, h => h.elim
  | .look l k, m, A0, W0, L, h => by
    obtain ⟨v, m', A, W, A1, W1, e, l⟩ := wpoL_ex (p := k l) h
    exact ⟨v, m', A, W, A1, W1, fun u => e u, l⟩
  | .get nm k, m, A0, W0, L, h => by
    obtain ⟨v, m', A, W, A1, W1, e, l, l2, l3⟩ := wpoL_ex (p := k (m nm)) h
    exact ⟨v, m', nm :: A, W, A1, W1, fun u => ⟨A, rfl, e u⟩, l, fun k hk => l2 k (by simp at hk ⊢; rcases hk with (h | h) | h <;> simp [h]), l3⟩
  | .set nm b k, m, A0, W0, L, h => by
    obtain ⟨v, m', A, W, A1, W1, e, l, l2, l3⟩ := wpoL_ex (p := k) h
    exact ⟨v, m', nm :: A, nm :: W, A1, W1, fun u => ⟨A, W, rfl, rfl, e u⟩, l, fun k hk => l2 k (by simp at hk ⊢; rcases hk with (h | h) | h <;> simp [h]), fun k hk => l3 k (by simp at hk ⊢; rcases hk with (h | h) | h <;> simp [h])⟩
  | .call f pas k, m, A0, W0, L, h => by
    obtain ⟨res, pbs, g, h⟩ := h
    obtain ⟨v, m', A, W, A1, W1, e, l⟩ := wpoL_ex h
    exact ⟨v, m', A, W, A1, W1, fun u => ⟨res, pbs, g, e u⟩, l⟩

def gdb (all : Array Oper) (o : Oper) (tm : Nat → AV) : Option Bool :=
  match o.guard with
  | none => some true
  | some (j, want) => match gdv all tm j with
    | .bool b => some (b == want)
    | .tup [] => some false
    | _ => none
def RunO (E : Env) (all : Array Oper) (o : Oper) (s s' : AState) (A W : List Nat) : Prop :=
  (gdb all o s.tm = some true ∧ ∃ v m' A0 W0, (∀ u, Ex E.P (AM.osem E.τ E.md o (evA s.tm) (baseOf o.dst)) u s.mem v m' A0 W0) ∧ (∀ k, k ∈ A0 → k ∈ A) ∧ (∀ k, k ∈ W0 → k ∈ W) ∧ s' = ⟨putA s.tm o.dst v, m', s.gs⟩) ∨
  (gdb all o s.tm = some false ∧ s' = ⟨putA s.tm o.dst (.tup []), s.mem, s.gs⟩)

theorem osem_congr {τ : TTab} {md : Nat → List Hn} {o : Oper} {ev ev' : Operand → AV} {D : Nat} (h : ∀ x, x ∈ o.op.operands → ev x = ev' x) : AM.osem τ md o ev D = AM.osem τ md o ev' D := by
  obtain ⟨dst, op, ty, pos, af, gd⟩ := o
  simp only at h
  have hl : ∀ xs : List Operand, (∀ x, x ∈ xs → ev x = ev' x) → xs.map ev = xs.map ev' := fun xs hx => List.map_congr_left hx
  have hp : ∀ ps : List (Nat × Operand), (∀ x, x ∈ ps.map (·.2) → ev x = ev' x) → (ps.map fun p => (p.1, ev p.2)) = ps.map fun p => (p.1, ev' p.2) := fun ps hx => List.map_congr_left fun p hm => by rw [hx p.2 (List.mem_map.2 ⟨p, hm, rfl⟩)]
  have ho : ∀ z : Option Operand, (∀ x, x ∈ z.toArray → ev x = ev' x) → z.map ev = z.map ev' := fun z hz => by
    cases z with
    | none => rfl
    | some y => simp only [Option.map_some]; rw [hz y (by simp)]
  unfold AM.osem
  cases op <;> simp only [Op.operands] at h ⊢ <;> first | rfl | skip
  case call cl =>
    obtain ⟨cal, args, ats⟩ := cl
    simp only [Call.operands] at h
    have ha := hl args.toList (fun x hx => h x (by simp at hx ⊢; exact .inr hx))
    cases cal with
    | builtin b => cases b <;> first | rfl | (simp only [ha])
    | invoke r nm => rfl
    | value f => simp only [ha, h f (by simp)]
  case build t ps => rw [hp ps.toList (fun x hx => h x (by simpa using hx))]
  case buildSlice t n ps => rw [hp ps.toList (fun x hx => h x (by simpa using hx))]
  case binOp op t x y yt =>
    have h1 := h x (by simp)
    have h2 := h y (by simp)
    cases y <;> simp only [h1, h2]
  case slice t x lo hi mx =>
    rw [h x (by simp), ho lo (fun y hy => h y (by simp at hy ⊢; simp [hy])), ho hi (fun y hy => h y (by simp at hy ⊢; simp [hy])), ho mx (fun y hy => h y (by simp at hy ⊢; simp [hy]))]
  all_goals simp [h]

theorem evA_put {tm : Nat → AV} {d : Option Nat} {v : AV} {x : Operand} (h : ∀ k, d = some k → x ≠ .tmp k) : evA (putA tm d v) x = evA tm x := by
  cases d with
  | none => rfl
  | some d =>
    cases x with
    | tmp t => exact upd_ne _ _ (fun e => h d rfl (e ▸ rfl))
    | _ => rfl
theorem gdb_put {o : Oper} {tm : Nat → AV} {d : Option Nat} {v : AV} (h : ∀ k, d = some k → k ∉ o.looksAt all) : gdb all o (putA tm d v) = gdb all o tm := by
  unfold gdb
  cases hg : o.guard with
  | none => rfl
  | some p =>
    obtain ⟨j, want⟩ := p
    simp only
    have : gdv all (putA tm d v) j = gdv all tm j := by
      unfold gdv
      cases ht : (all[j]?).bind (·.dst) with
      | none => rfl
      | some t =>
        simp only
        cases d with
        | none => rfl
        | some d =>
          refine upd_ne _ _ (fun e => h d rfl ?_)
          unfold Oper.looksAt
          rw [hg]
          simp [ht, e]
    rw [this]
theorem osem_put {o : Oper} {tm : Nat → AV} {d : Option Nat} {v : AV} {D : Nat} (h : ∀ k, d = some k → k ∉ o.looksAt all) : AM.osem E.τ E.md o (evA (putA tm d v)) D = AM.osem E.τ E.md o (evA tm) D := by
  refine osem_congr fun x hx => evA_put fun k hk e => h k hk ?_
  subst e
  unfold Oper.looksAt
  refine List.mem_append_left _ (List.mem_filterMap.2 ⟨_, by simpa using hx, rfl⟩)
theorem putA_comm {tm : Nat → AV} {d e : Option Nat} {v v' : AV} (h : ∀ k, d = some k → e ≠ some k) : putA (putA tm d v) e v' = putA (putA tm e v') d v := by
  cases d with
  | none => rfl
  | some d =>
    cases e with
    | none => rfl
    | some e => exact upd_comm _ _ _ (fun he => h d rfl (he ▸ rfl))

theorem RunO.swap {x y : Oper} {s s1 s2 : AState} {A W B V : List Nat} (h1 : RunO E all x s s1 A W) (h2 : RunO E all y s1 s2 B V) (ha : x.apart all y = true) (hw : ∀ k, k ∈ W → k ∉ B) (hv : ∀ k, k ∈ V → k ∉ A) :
    ∃ t, RunO E all y s t B V ∧ RunO E all x t s2 A W := by
  obtain ⟨a1, a2, a3⟩ := Oper.apart_spec ha
  have c2 : ∀ {v v' : AV}, putA (putA s.tm x.dst v) y.dst v' = putA (putA s.tm y.dst v') x.dst v := putA_comm a2
  rcases h1 with ⟨g1, v, m1, A0, W0, e1, i1, j1, rfl⟩ | ⟨g1, rfl⟩
  · rcases h2 with ⟨g2, v2, m2, B0, V0, e2, i2, j2, rfl⟩ | ⟨g2, rfl⟩
    · simp only [gdb_put a1, osem_put a1] at g2 e2
      have sw := fun u u' => Ex.swap (e1 u) (e2 u') (fun k hk hb => hw k (j1 k hk) (i2 k hb)) (fun k hk hb => hv k (j2 k hk) (i1 k hb))
      refine ⟨⟨putA s.tm y.dst v2, over s.mem V0 m2, s.gs⟩, .inl ⟨g2, v2, _, B0, V0, fun u => (sw u u).1, i2, j2, rfl⟩, .inl ⟨by simpa only [gdb_put a3] using g1, v, m2, A0, W0, fun u => ?_, i1, j1, ?_⟩⟩
      · simp only [osem_put a3]; exact (sw u u).2
      · simp only [c2]
    · simp only [gdb_put a1] at g2
      refine ⟨⟨putA s.tm y.dst (.tup []), s.mem, s.gs⟩, .inr ⟨g2, rfl⟩, .inl ⟨by simpa only [gdb_put a3] using g1, v, m1, A0, W0, fun u => ?_, i1, j1, ?_⟩⟩
      · simp only [osem_put a3]; exact e1 u
      · simp only [c2]
  · rcases h2 with ⟨g2, v2, m2, B0, V0, e2, i2, j2, rfl⟩ | ⟨g2, rfl⟩
    · simp only [gdb_put a1, osem_put a1] at g2 e2
      exact ⟨⟨putA s.tm y.dst v2, m2, s.gs⟩, .inl ⟨g2, v2, m2, B0, V0, e2, i2, j2, rfl⟩, .inr ⟨by simpa only [gdb_put a3] using g1, by simp only [c2]⟩⟩
    · simp only [gdb_put a1] at g2
      exact ⟨⟨putA s.tm y.dst (.tup []), s.mem, s.gs⟩, .inr ⟨g2, rfl⟩, .inr ⟨by simpa only [gdb_put a3] using g1, by simp only [c2]⟩⟩

def RunI (E : Env) (all : Array Oper) (lg : Nat → List Nat × List Nat) (i : Nat) (s s' : AState) : Prop := ∃ o, all[i]? = some o ∧ RunO E all o s s' (lg i).1 (lg i).2
def RunL (E : Env) (all : Array Oper) (lg : Nat → List Nat × List Nat) : List Nat → AState → AState → Prop
  | [], s, s' => s' = s
  | i :: r, s, s' => ∃ s1, RunI E all lg i s s1 ∧ RunL E all lg r s1 s'
def Free (all : Array Oper) (lg : Nat → List Nat × List Nat) (j i : Nat) : Prop := apartAt all (j, i) = true ∧ (∀ k, k ∈ (lg j).2 → k ∉ (lg i).1) ∧ ∀ k, k ∈ (lg i).2 → k ∉ (lg j).1
theorem RunL.front {lg : Nat → List Nat × List Nat} {i : Nat} {R2 : List Nat} : ∀ (R1 : List Nat) {s s' : AState}, RunL E all lg (R1 ++ i :: R2) s s' → (∀ j, j ∈ R1 → Free all lg j i) → ∃ s1, RunI E all lg i s s1 ∧ RunL E all lg (R1 ++ R2) s1 s'
  | [], s, s', h, hf => h
  | j :: R1, s, s', h, hf => by
    obtain ⟨t, ⟨oj, hj, h1⟩, h2⟩ := h
    obtain ⟨t1, ⟨oi, hi, h3⟩, h4⟩ := RunL.front R1 h2 (fun k hk => hf k (by simp [hk]))
    obtain ⟨f1, f2, f3⟩ := hf j (by simp)
    simp only [apartAt, hj, hi] at f1
    obtain ⟨t', q1, q2⟩ := RunO.swap h1 h3 f1 f2 f3
    exact ⟨t', ⟨oi, hi, q1⟩, t1, ⟨oj, hj, q2⟩, h4⟩

theorem aopsD_run {K : AState → Prop} : ∀ (r : List Oper) (k : Nat) {s : AState} {lg0 : List (List Nat × List Nat)}, lg0.length = k → r = all.toList.drop k → aopsD E all K r s lg0 →
    ∃ lgs s', lgs.length = r.length ∧ logOk all (lg0.reverse ++ lgs) = true ∧ K s' ∧ RunL E all (fun i => (lg0.reverse ++ lgs).getD i ([], [])) (List.range' k r.length) s s'
  | [], k, s, lg0, hk, hr, h => ⟨[], s, rfl, by simpa using h.1, h.2, rfl⟩
  | o :: r, k, s, lg0, hk, hr, h => by
    have ho : all[k]? = some o := by
      rw [← Array.getElem?_toList]
      have := congrArg (·[0]?) hr
      simpa [List.getElem?_drop] using this.symm
    have hr2 : r = all.toList.drop (k + 1) := by
      have := congrArg (·.drop 1) hr
      simpa [List.drop_drop, Nat.add_comm] using this
    have step : ∀ {s1 : AState} {A W : List Nat}, aopsD E all K r s1 ((A, W) :: lg0) → RunO E all o s s1 A W → ∃ lgs s', lgs.length = (o :: r).length ∧ logOk all (lg0.reverse ++ lgs) = true ∧ K s' ∧ RunL E all (fun i => (lg0.reverse ++ lgs).getD i ([], [])) (List.range' k (o :: r).length) s s' := by
      intro s1 A W h hrun
      obtain ⟨lgs, s', q1, q2, q3, q4⟩ := aopsD_run r (k + 1) (by simp [hk]) hr2 h
      refine ⟨(A, W) :: lgs, s', by simp [q1], by simpa using q2, q3, s1, ⟨o, ho, ?_⟩, ?_⟩
      · simp only [List.getD_eq_getElem?_getD]
        rw [List.getElem?_append_right (by simp [hk]), List.length_reverse, hk, Nat.sub_self]
        exact hrun
      · simpa using q4
    unfold aopsD at h
    split at h
    · rename_i hg
      obtain ⟨v, m', A, W, A1, W1, e, l, l2, l3⟩ := wpoL_ex h
      exact step l (.inl ⟨by unfold gdb; rw [hg], v, m', A, W, e, fun k hk => l2 k (.inl hk), fun k hk => l3 k (.inl hk), rfl⟩)
    · rename_i j want hg
      unfold guardW at h
      split at h
      · rename_i b hb
        have hgb : gdb all o s.tm = some (b == want) := by unfold gdb; rw [hg]; simp only [hb]
        cases hc : (b == want) with
        | true =>
          obtain ⟨v, m', A, W, A1, W1, e, l, l2, l3⟩ := wpoL_ex (h.1 (by simpa using hc))
          exact step l (.inl ⟨hgb.trans (by rw [hc]), v, m', A, W, e, fun k hk => l2 k (.inl hk), fun k hk => l3 k (.inl hk), rfl⟩)
        | false => exact step (h.2 (by intro e; subst e; simp at hc)) (.inr ⟨hgb.trans (by rw [hc]), rfl⟩)
      · rename_i hb
        have hgb : gdb all o s.tm = some false := by unfold gdb; rw [hg]; simp only [hb]
        exact step h (.inr ⟨hgb, rfl⟩)
      · exact h.elim

/-! ### what is loose -/
def Down (all : Array Oper) (S : Nat → Prop) : Prop := ∀ i, S i → ∀ j, j ∈ direct all i → S j
theorem ancT_spec : ∀ (n i : Nat) (T : List (List Nat)), T.length = i → (∀ k A, T[k]? = some A → ∀ S, Down all S → (∀ j, j ∈ direct all k → S j) → ∀ j, j ∈ A → S j) →
    (ancT all n i T).length = i + n ∧ ∀ k A, (ancT all n i T)[k]? = some A → ∀ S, Down all S → (∀ j, j ∈ direct all k → S j) → ∀ j, j ∈ A → S j
  | 0, i, T, hl, h => ⟨hl, h⟩
  | n + 1, i, T, hl, h => by
    have := ancT_spec n (i + 1) (T ++ [dedup ((direct all i).flatMap fun j => j :: T.getD j [])]) (by simp [hl]) (fun k A hk S hS hd j hj => by
      rw [List.getElem?_append] at hk
      split at hk
      · exact h k A hk S hS hd j hj
      · rename_i hlt
        have : k = i := by
          rw [List.getElem?_singleton] at hk
          split at hk
          · omega
          · cases hk
        subst this
        rw [hl, Nat.sub_self] at hk
        simp at hk
        subst hk
        rw [mem_dedup, List.mem_flatMap] at hj
        obtain ⟨e, he, hj⟩ := hj
        rcases List.mem_cons.1 hj with rfl | hj
        · exact hd j he
        · cases hT : T[e]? with
          | none => rw [hT] at hj; cases hj
          | some A => rw [hT] at hj; exact h e A hT S hS (hS e (hd e he)) j hj)
    simp only [ancT]
    exact ⟨by rw [this.1]; omega, this.2⟩
theorem mem_looseAt {i : Nat} {A : List Nat} : ∀ {n j : Nat}, j < n → j ∉ A → (j, i) ∈ looseAt i A n
  | n + 1, j, hj, ha => by
    unfold looseAt
    by_cases he : j = n
    · subst he; rw [if_neg (by simpa using ha)]; simp
    · have := mem_looseAt (i := i) (n := n) (j := j) (by omega) ha
      split
      · exact this
      · exact List.mem_cons_of_mem _ this
theorem mem_looseL : ∀ {T : List (List Nat)} {b k j : Nat} {A : List Nat}, T[k]? = some A → j < b + k → j ∉ A → (j, b + k) ∈ looseL b T
  | A0 :: T, b, 0, j, A, hk, hj, ha => by
    simp at hk; subst hk
    exact List.mem_append_left _ (mem_looseAt hj ha)
  | A0 :: T, b, k + 1, j, A, hk, hj, ha => by
    have := mem_looseL (T := T) (b := b + 1) (k := k) (j := j) (A := A) (by simpa using hk) (by omega) ha
    rw [show b + (k + 1) = b + 1 + k by omega]
    exact List.mem_append_right _ this
/-- one that may come now, and one that is still to come, are loose -/
theorem loose_of {S : Nat → Prop} (hS : Down all S) {i j : Nat} (hi : ∀ k, k ∈ direct all i → S k) (hlt : i < all.size) (hj : j < i) (hn : ¬ S j) : (j, i) ∈ loose all := by
  obtain ⟨h1, h2⟩ := ancT_spec (all := all) all.size 0 [] rfl (by simp)
  have : i < (ancT all all.size 0 []).length := by rw [h1]; omega
  have hA := List.getElem?_eq_getElem this
  have := mem_looseL (b := 0) hA (by simpa using hj) (fun hm => hn (h2 i _ hA S hS hi j hm))
  simpa [loose] using this

theorem mem_direct {i : Nat} {o : Oper} (ho : all[i]? = some o) {j : Nat} : j ∈ direct all i ↔ ∃ e, e ∈ o.after ∧ Region.binds .any e = true ∧ e.on = j := by
  unfold direct
  rw [ho]
  simp [List.mem_map, List.mem_filter, and_assoc]

theorem any_ok (hτ : TTok E.P E.τ) {K : AState → Prop} {Q : Exit → Act → World → Prop} (hK : ∀ s a w, K s → Holds c gv N s a w → Q .normal a w) (hN : ∀ o, o ∈ all.toList → ∀ d, o.dst = some d → d < N) (ho : ordOk all = true)
    {lg : List (List Nat × List Nat)} (hl : logOk all lg = true) {s' : AState} (hs' : K s') :
    ∀ (fuel : Nat) (R : List Nat) (listed : Array Bool) {s : AState} {a : Act} {w : World}, R.length = fuel → listed.size = all.size → R.Pairwise (· < ·) → (∀ i, i ∈ R ↔ i < all.size ∧ listed.getD i false = false) → (Down all fun i => listed.getD i false = true) →
      RunL E all (fun i => lg.getD i ([], [])) R s s' → Holds c gv N s a w → wpAny E.P .any all Q fuel listed a w := by
  unfold ordOk at ho
  rw [Bool.and_eq_true, List.all_eq_true, List.all_eq_true] at ho
  unfold logOk at hl
  rw [List.all_eq_true] at hl
  have disj : ∀ {xs ys : List Nat}, disjB xs ys = true → ∀ k, k ∈ xs → k ∉ ys := fun h k hk => by
    unfold disjB at h
    rw [List.all_eq_true] at h
    simpa using h k hk
  have rd : ∀ {listed : Array Bool} {i : Nat}, i ∈ Region.ready .any all listed → listed.size = all.size → i < all.size ∧ listed.getD i false = false ∧ ∀ k, k ∈ direct all i → listed.getD k false = true := by
    intro listed i hi hsz
    obtain ⟨h1, o, h2, h3⟩ := mem_ready.1 hi
    have hlt := (Array.getElem?_eq_some_iff.1 h2).1
    refine ⟨hlt, ?_, fun k hk => ?_⟩
    · rw [Array.getD_eq_getD_getElem?] at h1 ⊢
      cases hx : listed[i]? with
      | none => rfl
      | some b => rw [hx] at h1; exact h1
    · obtain ⟨e, e1, e2, rfl⟩ := (mem_direct h2).1 hk
      exact h3 e e1 e2
  intro fuel
  induction fuel with
  | zero =>
    intro R listed s a w hR hsz hp hm hD hrun H
    have : R = [] := List.length_eq_zero_iff.1 hR
    subst this
    simp only [RunL] at hrun
    subst hrun
    refine ⟨?_, hK _ _ _ hs' H⟩
    cases hr : Region.ready .any all listed with
    | nil => rfl
    | cons i r =>
      obtain ⟨h1, h2, _⟩ := rd (i := i) (by rw [hr]; simp) hsz
      have := (hm i).2 ⟨h1, h2⟩
      cases this
  | succ fuel ih =>
    intro R listed s a w hR hsz hp hm hD hrun H
    refine ⟨fun hnil => ?_, fun i hi => ?_⟩
    · exfalso
      match R, hR with
      | i :: r, hR =>
        obtain ⟨h1, h2⟩ := (hm i).1 (by simp)
        have : i ∈ Region.ready .any all listed := by
          refine mem_ready.2 ⟨?_, all[i], Array.getElem?_eq_getElem h1, fun e he hb => ?_⟩
          · rw [Array.getD_eq_getD_getElem?] at h2 ⊢
            rw [Array.getElem?_eq_getElem (by omega)] at h2 ⊢
            exact h2
          · have hd : e.on ∈ direct all i := (mem_direct (Array.getElem?_eq_getElem h1)).2 ⟨e, he, hb, rfl⟩
            have hlt := ho.1 i (by simpa using h1)
            rw [List.all_eq_true] at hlt
            have hlt := of_decide_eq_true (hlt _ hd)
            cases hx : listed.getD e.on false with
            | true => rfl
            | false =>
              have := (hm e.on).2 ⟨by omega, hx⟩
              rcases List.mem_cons.1 this with h | h
              · omega
              · have := List.rel_of_pairwise_cons hp h; omega
        rw [hnil] at this; cases this
    · obtain ⟨h1, h2, h3⟩ := rd hi hsz
      have hiR := (hm i).2 ⟨h1, h2⟩
      obtain ⟨R1, R2, rfl⟩ := List.append_of_mem hiR
      have hpw := List.pairwise_append.1 hp
      obtain ⟨s1, ⟨o, hoi, hrun1⟩, hrun2⟩ := RunL.front R1 hrun (fun j hj => by
        have hji : j < i := hpw.2.2 j hj i (by simp)
        have hjn := (hm j).1 (by simp [hj])
        have hmem := loose_of hD h3 h1 hji (by simp [hjn.2])
        have hlg := hl _ hmem
        rw [Bool.and_eq_true] at hlg
        exact ⟨ho.2 _ hmem, disj hlg.1, disj hlg.2⟩)
      have hoN := hN o (by rw [← Array.getElem?_toList] at hoi; exact List.mem_of_getElem? hoi)
      have next : ∀ {a' w'}, Holds c gv N s1 a' w' → wpAny E.P .any all Q fuel (listed.setIfInBounds i true) a' w' := fun H' =>
        ih (R1 ++ R2) _ (by simp at hR ⊢; omega) (by simpa using hsz) (hp.sublist (by simp)) (fun j => by
          by_cases he : j = i
          · subst he
            have hnd : (R1 ++ j :: R2).Nodup := hp.imp (fun h => Nat.ne_of_lt h)
            rw [Array.getD_eq_getD_getElem?, Array.getElem?_setIfInBounds_self_of_lt (by omega)]
            simp only [Option.getD_some, Bool.true_eq_false, and_false, iff_false]
            rw [(List.perm_middle (l₁ := R1) (l₂ := R2) (a := j)).nodup_iff, List.nodup_cons] at hnd
            exact hnd.1
          · rw [getD_set_ne false (Ne.symm he), ← hm j]
            simp [he]) (fun k hk j hj => by
          by_cases he : k = i
          · subst he; exact getD_set_true (h3 j hj)
          · simp only [getD_set_ne false (Ne.symm he)] at hk
            exact getD_set_true (hD k hk j hj)) hrun2 H'
      unfold wpOp
      rw [hoi]
      simp only
      have hg : ∀ b, gdb all o s.tm = some b → Region.wanted o (yielded all a.tmps) = b := by
        intro b hb
        unfold gdb at hb
        cases hgd : o.guard with
        | none => rw [hgd] at hb; simp at hb; subst hb; unfold Region.wanted; rw [hgd]
        | some p =>
          obtain ⟨j, want⟩ := p
          rw [hgd] at hb
          simp only at hb
          split at hb
          · rename_i b' hb'
            rw [guard_ok hgd H hb']
            simpa using hb
          · rename_i hb'
            rw [guard_none hgd H hb']
            simpa using hb
          · cases hb
      rcases hrun1 with ⟨g1, v, m1, A0, W0, e1, i1, j1, rfl⟩ | ⟨g1, rfl⟩
      · rw [hg _ g1, if_pos rfl]
        refine .inl ?_
        obtain ⟨hd, fp, q1, q2, q3, q4, q5⟩ := H
        obtain ⟨u, hu⟩ := osem_u (md := E.md) (o := o) (D := baseOf o.dst) hτ q1 (fun x => evA_ok q2 x)
        refine hu _ _ _ _ (e1 u) _ Q fun vv w' hd' fp' k1 k2 k3 => next ?_
        exact ⟨hd', fp', k2, Rel.put (Rel.evo k3 q2) k1 (fun d hd => by rw [q5]; exact hoN d hd), AVokL.evo k3 _ q3, (put_defers' a _ vv).trans q4, (put_size a _ vv).trans q5⟩
      · rw [hg _ g1, if_neg (by simp)]
        exact next (skip_ok hoN H)
end
end Go.AM
