/- AN ABSTRACT MACHINE, 22: steps: guards, choices, drawn regions. No condition of its own. -/
import Derived.Test.YtbkpmljdmlhmhaaA20
set_option linter.unusedVariables false
set_option linter.unusedSimpArgs false
namespace Go.AM
open Go AM

section
variable {E : Env} {all : Array Oper} {K : AState → Prop} {tm : Nat → AV} {m0 : Mem} {gs : List AV} {r : List Oper} {d : Option Nat} {op : Op} {ty : Nat} {pos : String} {af : Array Edge} {j : Nat} {c : Bool}
theorem o_g {want : Bool} (hc : gdv all tm j = .bool c) (h1 : c = want → wpo E.P (AM.osem E.τ E.md ⟨d, op, ty, pos, af, some (j, want)⟩ (evA tm) (baseOf d)) m0 fun v m => aops E all K r ⟨putA tm d v, m, gs⟩) (h2 : c ≠ want → aops E all K r ⟨putA tm d (.tup []), m0, gs⟩) :
    aops E all K (⟨d, op, ty, pos, af, some (j, want)⟩ :: r) ⟨tm, m0, gs⟩ := by
  unfold aops
  show guardW (gdv all tm j) want _ _
  rw [hc]
  exact ⟨h1, h2⟩
theorem o_gT (hc : gdv all tm j = .bool c) (h1 : c = true → wpo E.P (AM.osem E.τ E.md ⟨d, op, ty, pos, af, some (j, true)⟩ (evA tm) (baseOf d)) m0 fun v m => aops E all K r ⟨putA tm d v, m, gs⟩) (h2 : c = false → aops E all K r ⟨putA tm d (.tup []), m0, gs⟩) :
    aops E all K (⟨d, op, ty, pos, af, some (j, true)⟩ :: r) ⟨tm, m0, gs⟩ := o_g hc h1 fun h => h2 (by simpa using h)
theorem o_gF (hc : gdv all tm j = .bool c) (h1 : c = false → wpo E.P (AM.osem E.τ E.md ⟨d, op, ty, pos, af, some (j, false)⟩ (evA tm) (baseOf d)) m0 fun v m => aops E all K r ⟨putA tm d v, m, gs⟩) (h2 : c = true → aops E all K r ⟨putA tm d (.tup []), m0, gs⟩) :
    aops E all K (⟨d, op, ty, pos, af, some (j, false)⟩ :: r) ⟨tm, m0, gs⟩ := o_g hc h1 fun h => h2 (by simpa using h)
theorem o_y {want : Bool} (hc : gdv all tm j = .bool c) (h : c = want) (h1 : wpo E.P (AM.osem E.τ E.md ⟨d, op, ty, pos, af, some (j, want)⟩ (evA tm) (baseOf d)) m0 fun v m => aops E all K r ⟨putA tm d v, m, gs⟩) :
    aops E all K (⟨d, op, ty, pos, af, some (j, want)⟩ :: r) ⟨tm, m0, gs⟩ := o_g hc (fun _ => h1) fun h' => (h' h).elim
theorem o_nU {want : Bool} (hc : gdv all tm j = .tup []) (h1 : aops E all K r ⟨putA tm d (.tup []), m0, gs⟩) :
    aops E all K (⟨d, op, ty, pos, af, some (j, want)⟩ :: r) ⟨tm, m0, gs⟩ := by
  unfold aops
  show guardW (gdv all tm j) want _ _
  rw [hc]
  exact h1
theorem o_nT (hc : gdv all tm j = .bool c) (h : c = false) (h1 : aops E all K r ⟨putA tm d (.tup []), m0, gs⟩) :
    aops E all K (⟨d, op, ty, pos, af, some (j, true)⟩ :: r) ⟨tm, m0, gs⟩ := o_g hc (fun h' => by rw [h] at h'; cases h') fun _ => h1
theorem o_nF (hc : gdv all tm j = .bool c) (h : c = true) (h1 : aops E all K r ⟨putA tm d (.tup []), m0, gs⟩) :
    aops E all K (⟨d, op, ty, pos, af, some (j, false)⟩ :: r) ⟨tm, m0, gs⟩ := o_g hc (fun h' => by rw [h] at h'; cases h') fun _ => h1
end

section
variable {P : Program} {τ : TTab} {md : Nat → List Hn} {d : Option Nat} {ty : Nat} {pos : String} {af : Array Edge} {g : Option (Nat × Bool)} {x a b : Operand} {ev : Operand → AV} {D : Nat} {m m' : Mem} {v : AV} {c : Bool}
theorem w_pT {L : AV → Mem → Prop} (hx : ev x = .bool c) (h : c = true) (hv : run1 (.ret (ev a)) m = .ok v m') (k : L v m') : wpo P (AM.osem τ md ⟨d, .pick x a b, ty, pos, af, g⟩ ev D) m L := by
  refine w_ok (v := v) (m' := m') ?_ k
  rw [← hv]
  subst h
  simp [AM.osem, AM.pickA, hx]
theorem w_pF {L : AV → Mem → Prop} (hx : ev x = .bool c) (h : c = false) (hv : run1 (.ret (ev b)) m = .ok v m') (k : L v m') : wpo P (AM.osem τ md ⟨d, .pick x a b, ty, pos, af, g⟩ ev D) m L := by
  refine w_ok (v := v) (m' := m') ?_ k
  rw [← hv]
  subst h
  simp [AM.osem, AM.pickA, hx]
end
section
variable {E : Env} {Q : Exit → AState → Prop} {s : AState} {c : Operand} {x y : Code} {b : Bool}
theorem aw_cT (hc : evA s.tm c = .bool b) (h : b = true) (k : aw E x Q s) : aw E (.cond c x y) Q s := aw_cond hc (fun _ => k) (fun h' => by rw [h] at h'; cases h')
theorem aw_cF (hc : evA s.tm c = .bool b) (h : b = false) (k : aw E y Q s) : aw E (.cond c x y) Q s := aw_cond hc (fun h' => by rw [h] at h'; cases h') (fun _ => k)
theorem aw_block {id : Nat} (h : aw E x (blockQ id Q) s) : aw E (.block id x) Q s := h
theorem aw_skip (h : Q .normal s) : aw E .skip Q s := h
theorem aw_exit {id : Nat} (h : Q (.exit id) s) : aw E (.exit id) Q s := h
theorem aw_ret (h : Q .ret s) : aw E .ret Q s := h
theorem aw_reg {id : Nat} {ops : Array Oper} (h : aops E ops (Q .normal) ops.toList s) : aw E (.region id ops false) Q s := h
theorem aw_drw {id : Nat} {ops : Array Oper} (ho : ordOk ops = true) (h : aopsD E ops (Q .normal) ops.toList s []) : aw E (.region id ops true) Q s := ⟨ho, h⟩
/-- the end of a piece -/
theorem q_then {K : AState → Prop} (h : K s) : thenQ K Q .normal s := h
theorem q_ret {K : AState → Prop} (h : Q .ret s) : thenQ K Q .ret s := h
theorem q_exit {K : AState → Prop} {id : Nat} (h : Q (.exit id) s) : thenQ K Q (.exit id) s := h
theorem q_blockN {id : Nat} (h : Q .normal s) : blockQ id Q .normal s := h
theorem q_blockR {id : Nat} (h : Q .ret s) : blockQ id Q .ret s := h
theorem q_blockE {id : Nat} (h : Q .normal s) : blockQ id Q (.exit id) s := by simp only [blockQ, if_true]; exact h
theorem q_blockX {id j : Nat} (hj : j ≠ id) (h : Q (.exit j) s) : blockQ id Q (.exit j) s := by simp only [blockQ, if_neg hj]; exact h
end

/-! ### loops and meetings with what holds at them -/
section
variable {E : Env} {Q : Exit → AState → Prop} {s : AState} {a b : Code}
theorem loop1 {α : Type} (J : α → AState) (I : α → Prop) (μ : α → Nat) (x : α) (hx : I x) (h0 : Le s (J x)) (hr : ∀ x, I x → aw E b (thenQ (fun s => ∃ x', (I x' ∧ μ x' < μ x) ∧ Le s (J x')) Q) (J x)) : aw E (.loop b) Q s :=
  aw_loop (α := {x // I x}) (fun x => J x.1) (fun x => μ x.1) ⟨x, hx⟩ h0 fun x => aw_mono b (fun e s q => by
    cases e <;> first | exact q | skip
    obtain ⟨x', h1, h2⟩ := q
    exact ⟨⟨x', h1.1⟩, h1.2, h2⟩) (hr x.1 x.2)
theorem loop2 {α β : Type} (J : α → β → AState) (I : α → β → Prop) (μ : α → β → Nat) (x : α) (y : β) (hx : I x y) (h0 : Le s (J x y)) (hr : ∀ x y, I x y → aw E b (thenQ (fun s => ∃ x' y', (I x' y' ∧ μ x' y' < μ x y) ∧ Le s (J x' y')) Q) (J x y)) : aw E (.loop b) Q s :=
  loop1 (α := α × β) (fun x => J x.1 x.2) (fun x => I x.1 x.2) (fun x => μ x.1 x.2) (x, y) hx h0 fun x hx => aw_mono b (fun e s q => by
    cases e <;> first | exact q | skip
    obtain ⟨x', y', h1, h2⟩ := q
    exact ⟨(x', y'), h1, h2⟩) (hr x.1 x.2 hx)
theorem loop3 {α β γ : Type} (J : α → β → γ → AState) (I : α → β → γ → Prop) (μ : α → β → γ → Nat) (x : α) (y : β) (z : γ) (hx : I x y z) (h0 : Le s (J x y z)) (hr : ∀ x y z, I x y z → aw E b (thenQ (fun s => ∃ x' y' z', (I x' y' z' ∧ μ x' y' z' < μ x y z) ∧ Le s (J x' y' z')) Q) (J x y z)) : aw E (.loop b) Q s :=
  loop1 (α := α × β × γ) (fun x => J x.1 x.2.1 x.2.2) (fun x => I x.1 x.2.1 x.2.2) (fun x => μ x.1 x.2.1 x.2.2) (x, y, z) hx h0 fun x hx => aw_mono b (fun e s q => by
    cases e <;> first | exact q | skip
    obtain ⟨x', y', z', h1, h2⟩ := q
    exact ⟨(x', y', z'), h1, h2⟩) (hr x.1 x.2.1 x.2.2 hx)
theorem cut1 {α : Type} (J : α → AState) (I : α → Prop) (h1 : aw E a (thenQ (fun s => ∃ x, I x ∧ Le s (J x)) Q) s) (h2 : ∀ x, I x → aw E b Q (J x)) : aw E (.seq a b) Q s :=
  aw_cut (α := {x // I x}) (fun x => J x.1) (fun x => h2 x.1 x.2) (aw_mono a (fun e s q => by
    cases e <;> first | exact q | skip
    obtain ⟨x', h1, h2⟩ := q
    exact ⟨⟨x', h1⟩, h2⟩) h1)
end

/-! ### in a drawn region -/
inductive R1L where
  | ok (v : AV) (m : Mem) (A W : List Nat)
  | req (p : Prop) (k : AM AV) (m : Mem) (A W : List Nat)
  | look (L : List Tr) (k : List Tr → AM AV) (m : Mem) (A W : List Nat)
  | call (f : Nat) (pas : List PA) (k : Tr → List PB → AM AV) (m : Mem) (A W : List Nat)
  | fail
def run1L : AM AV → Mem → List Nat → List Nat → R1L
  | .ret v, m, A, W => match v with
    | .any => .ok .any m A W
    | .int k n => .ok (.int k n) m A W
    | .bool b => .ok (.bool b) m A W
    | .str s => .ok (.str s) m A W
    | .agg cs => .ok (.agg cs) m A W
    | .tup cs => .ok (.tup cs) m A W
    | .nils => .ok .nils m A W
    | .ro a b c d => .ok (.ro a b c d) m A W
    | .own a b => .ok (.own a b) m A W
    | .cut a b c d => .ok (.cut a b c d) m A W
    | .inn a b c d e => .ok (.inn a b c d e) m A W
    | .ptr a b c d => .ok (.ptr a b c d) m A W
    | .rptr cs => .ok (.rptr cs) m A W
    | .fn f => .ok (.fn f) m A W
  | .req p k, m, A, W => .req p k m A W
  | .look l k, m, A, W => .look l k m A W
  | .get nm k, m, A, W => run1L (k (m nm)) m (nm :: A) W
  | .set nm b k, m, A, W => run1L k (upd m nm (some b)) (nm :: A) (nm :: W)
  | .call f pas k, m, A, W => .call f pas k m A W
  | _, _, _, _ => .fail
def R1L.wp (P : Program) (L : AV → Mem → List Nat → List Nat → Prop) : R1L → Prop
  | .ok v m A W => L v m A W
  | .req p k m A W => p ∧ wpoL P k m A W L
  | .look l k m A W => wpoL P (k l) m A W L
  | .call f pas k m A W => ∃ res pbs, AGood P f pas res pbs ∧ wpoL P (k res pbs) m A W L
  | .fail => False
theorem wpoL_run {P : Program} {L : AV → Mem → List Nat → List Nat → Prop} : ∀ {p : AM AV} {m A W}, (run1L p m A W).wp P L → wpoL P p m A W L
  | .ret v, m, A, W, h => by cases v <;> simpa only [run1L, R1L.wp, wpoL] using h
  | .fail, m, A, W, h => by simp only [run1L, R1L.wp] at h
  | .req p k, m, A, W, h => by simpa only [run1L, R1L.wp, wpoL] using h
  | .pick k, m, A, W, h => by simp only [run1L, R1L.wp] at h
  | .look l k, m, A, W, h => by simpa only [run1L, R1L.wp, wpoL] using h
  | .get nm k, m, A, W, h => by simp only [run1L] at h; simp only [wpoL]; exact wpoL_run h
  | .set nm b k, m, A, W, h => by simp only [run1L] at h; simp only [wpoL]; exact wpoL_run h
  | .call f pas k, m, A, W, h => by simpa only [run1L, R1L.wp, wpoL] using h
section
variable {P : Program} {L : AV → Mem → List Nat → List Nat → Prop} {p : AM AV} {m m' : Mem} {A W A' W' : List Nat}
theorem l_ok {v : AV} (h : run1L p m A W = .ok v m' A' W') (k : L v m' A' W') : wpoL P p m A W L := wpoL_run (by rw [h]; exact k)
theorem l_req {q : Prop} {k : AM AV} (h : run1L p m A W = .req q k m' A' W') (hq : q) (hk : wpoL P k m' A' W' L) : wpoL P p m A W L := wpoL_run (by rw [h]; exact ⟨hq, hk⟩)
theorem l_look {l l' : List Tr} {k : List Tr → AM AV} (h : run1L p m A W = .look l k m' A' W') (he : l = l') (hk : wpoL P (k l') m' A' W' L) : wpoL P p m A W L := wpoL_run (by rw [h]; subst he; exact hk)
theorem l_call {f : Nat} {pas : List PA} {k : Tr → List PB → AM AV} (h : run1L p m A W = .call f pas k m' A' W') {res : Tr} {pbs : List PB} (hg : AGood P f pas res pbs) (hk : wpoL P (k res pbs) m' A' W' L) : wpoL P p m A W L := wpoL_run (by rw [h]; exact ⟨res, pbs, hg, hk⟩)
variable {τ : TTab} {md : Nat → List Hn} {d : Option Nat} {ty : Nat} {pos : String} {af : Array Edge} {g : Option (Nat × Bool)} {x a b : Operand} {ev : Operand → AV} {D : Nat} {v : AV} {c : Bool}
theorem l_pT (hx : ev x = .bool c) (h : c = true) (hv : run1L (.ret (ev a)) m A W = .ok v m' A' W') (k : L v m' A' W') : wpoL P (AM.osem τ md ⟨d, .pick x a b, ty, pos, af, g⟩ ev D) m A W L := by
  refine l_ok (v := v) (m' := m') (A' := A') (W' := W') ?_ k
  rw [← hv]
  subst h
  simp [AM.osem, AM.pickA, hx]
theorem l_pF (hx : ev x = .bool c) (h : c = false) (hv : run1L (.ret (ev b)) m A W = .ok v m' A' W') (k : L v m' A' W') : wpoL P (AM.osem τ md ⟨d, .pick x a b, ty, pos, af, g⟩ ev D) m A W L := by
  refine l_ok (v := v) (m' := m') (A' := A') (W' := W') ?_ k
  rw [← hv]
  subst h
  simp [AM.osem, AM.pickA, hx]
end
section
variable {E : Env} {all : Array Oper} {K : AState → Prop} {tm : Nat → AV} {m0 : Mem} {gs : List AV} {r : List Oper} {d : Option Nat} {op : Op} {ty : Nat} {pos : String} {af : Array Edge} {j : Nat} {c : Bool} {lg : List (List Nat × List Nat)}
theorem d_nil {s : AState} (hl : logOk all lg.reverse = true) (h : K s) : aopsD E all K [] s lg := ⟨hl, h⟩
theorem d_cons (h : wpoL E.P (AM.osem E.τ E.md ⟨d, op, ty, pos, af, none⟩ (evA tm) (baseOf d)) m0 [] [] fun v m A W => aopsD E all K r ⟨putA tm d v, m, gs⟩ ((A, W) :: lg)) :
    aopsD E all K (⟨d, op, ty, pos, af, none⟩ :: r) ⟨tm, m0, gs⟩ lg := h
theorem d_g {want : Bool} (hc : gdv all tm j = .bool c) (h1 : c = want → wpoL E.P (AM.osem E.τ E.md ⟨d, op, ty, pos, af, some (j, want)⟩ (evA tm) (baseOf d)) m0 [] [] fun v m A W => aopsD E all K r ⟨putA tm d v, m, gs⟩ ((A, W) :: lg)) (h2 : c ≠ want → aopsD E all K r ⟨putA tm d (.tup []), m0, gs⟩ (([], []) :: lg)) :
    aopsD E all K (⟨d, op, ty, pos, af, some (j, want)⟩ :: r) ⟨tm, m0, gs⟩ lg := by
  unfold aopsD
  show guardW (gdv all tm j) want _ _
  rw [hc]
  exact ⟨h1, h2⟩
theorem d_gT (hc : gdv all tm j = .bool c) (h1 : c = true → wpoL E.P (AM.osem E.τ E.md ⟨d, op, ty, pos, af, some (j, true)⟩ (evA tm) (baseOf d)) m0 [] [] fun v m A W => aopsD E all K r ⟨putA tm d v, m, gs⟩ ((A, W) :: lg)) (h2 : c = false → aopsD E all K r ⟨putA tm d (.tup []), m0, gs⟩ (([], []) :: lg)) :
    aopsD E all K (⟨d, op, ty, pos, af, some (j, true)⟩ :: r) ⟨tm, m0, gs⟩ lg := d_g hc h1 fun h => h2 (by simpa using h)
theorem d_gF (hc : gdv all tm j = .bool c) (h1 : c = false → wpoL E.P (AM.osem E.τ E.md ⟨d, op, ty, pos, af, some (j, false)⟩ (evA tm) (baseOf d)) m0 [] [] fun v m A W => aopsD E all K r ⟨putA tm d v, m, gs⟩ ((A, W) :: lg)) (h2 : c = true → aopsD E all K r ⟨putA tm d (.tup []), m0, gs⟩ (([], []) :: lg)) :
    aopsD E all K (⟨d, op, ty, pos, af, some (j, false)⟩ :: r) ⟨tm, m0, gs⟩ lg := d_g hc h1 fun h => h2 (by simpa using h)
theorem d_y {want : Bool} (hc : gdv all tm j = .bool c) (h : c = want) (h1 : wpoL E.P (AM.osem E.τ E.md ⟨d, op, ty, pos, af, some (j, want)⟩ (evA tm) (baseOf d)) m0 [] [] fun v m A W => aopsD E all K r ⟨putA tm d v, m, gs⟩ ((A, W) :: lg)) :
    aopsD E all K (⟨d, op, ty, pos, af, some (j, want)⟩ :: r) ⟨tm, m0, gs⟩ lg := d_g hc (fun _ => h1) fun h' => (h' h).elim
theorem d_nU {want : Bool} (hc : gdv all tm j = .tup []) (h1 : aopsD E all K r ⟨putA tm d (.tup []), m0, gs⟩ (([], []) :: lg)) :
    aopsD E all K (⟨d, op, ty, pos, af, some (j, want)⟩ :: r) ⟨tm, m0, gs⟩ lg := by
  unfold aopsD
  show guardW (gdv all tm j) want _ _
  rw [hc]
  exact h1
theorem d_nT (hc : gdv all tm j = .bool c) (h : c = false) (h1 : aopsD E all K r ⟨putA tm d (.tup []), m0, gs⟩ (([], []) :: lg)) :
    aopsD E all K (⟨d, op, ty, pos, af, some (j, true)⟩ :: r) ⟨tm, m0, gs⟩ lg := d_g hc (fun h' => by rw [h] at h'; cases h') fun _ => h1
theorem d_nF (hc : gdv all tm j = .bool c) (h : c = true) (h1 : aopsD E all K r ⟨putA tm d (.tup []), m0, gs⟩ (([], []) :: lg)) :
    aopsD E all K (⟨d, op, ty, pos, af, some (j, false)⟩ :: r) ⟨tm, m0, gs⟩ lg := d_g hc (fun h' => by rw [h] at h'; cases h') fun _ => h1
end

/-! ### the end of a function -/
section
variable {E : Env} {ts : List Nat} {rs : List ResultVar} {res : Tr} {pbs : List PB} {s : AState}
theorem fin_r {x : Tr × List PB} (h : runG (AM.outAll E.τ ts rs s.tm s.gs) s.mem = .ok x) (hx : x = (res, pbs)) : finQ E ts rs res pbs .ret s := f_ok h hx
theorem fin_n {x : Tr × List PB} (h : runG (AM.outAll E.τ ts rs s.tm s.gs) s.mem = .ok x) (hx : x = (res, pbs)) : finQ E ts rs res pbs .normal s := f_ok h hx
theorem fin_l {m' : Mem} {l l' : List Tr} {k : List Tr → AM (Tr × List PB)} (h : runG (AM.outAll E.τ ts rs s.tm s.gs) s.mem = .look l k m') (he : l = l') (hk : wpo E.P (k l') m' fun r _ => r = (res, pbs)) : finQ E ts rs res pbs .ret s := f_look h he hk
end
end Go.AM
