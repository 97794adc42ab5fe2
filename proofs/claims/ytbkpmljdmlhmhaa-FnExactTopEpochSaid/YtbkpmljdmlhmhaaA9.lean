/- AN ABSTRACT MACHINE, 10: numbers, strings, cuts, conversions, structs made. No condition of its own. -/
import Derived.Test.YtbkpmljdmlhmhaaA8
set_option linter.unusedVariables false
set_option linter.unusedSimpArgs false
namespace Go.AM
open Go AM

section
variable {P : Program} {c : Ctx} {hd : Nat → Value} {fp : Nat → List Nat} {m m' : Mem} {w : World} {X : List Nat} {u : Nat → Bool} {A W : List Nat} {v : AV} {τ : TTab}

/-! ### numbers and strings -/
theorem bitsI_ok {op : BinOp} {k : IntKind} {a b r : Int} (h : bitsI op k a b = some r) : Op.intBits op k a b = .pure (.int k r) := by
  unfold bitsI at h
  cases op <;> first | (injection h with h; subst h; rfl) | (cases h)
theorem binI_ok {op : BinOp} {k k' : IntKind} {a b : Int} {t : Nat} (hk : k = k' ∨ op = .shl ∨ op = .shr) (hE : Ex P (binI op k a b) u m v m' A W) :
    m' = m ∧ ∃ vv, (Go.binOp op t (.int k a) (.int k' b)).run P w = .ok vv w ∧ AVok c hd m w.heap v vv := by
  have hkk : op ≠ .shl → op ≠ .shr → k = k' := fun h1 h2 => by
    rcases hk with h | h | h
    · exact h
    · exact absurd h h1
    · exact absurd h h2
  cases op <;> simp only [binI, Ex] at hE
  case shl =>
    obtain ⟨h0, rfl, rfl, _, _⟩ := hE
    have : ¬ b < 0 := by omega
    exact ⟨rfl, _, by simp [Go.binOp, Op.shift, this]; rfl, by simp only [AVok]⟩
  case shr =>
    obtain ⟨h0, rfl, rfl, _, _⟩ := hE
    have : ¬ b < 0 := by omega
    exact ⟨rfl, _, by simp [Go.binOp, Op.shift, this]; rfl, by simp only [AVok]⟩
  case quo =>
    obtain ⟨h0, rfl, rfl, _, _⟩ := hE
    have := hkk (by simp) (by simp); subst this
    exact ⟨rfl, _, by simp [Go.binOp, Op.intDiv, h0]; rfl, by simp only [AVok]⟩
  case rem =>
    obtain ⟨h0, rfl, rfl, _, _⟩ := hE
    have := hkk (by simp) (by simp); subst this
    exact ⟨rfl, _, by simp [Go.binOp, Op.intDiv, h0]; rfl, by simp only [AVok]⟩
  case and | or | xor | andNot =>
    have := hkk (by simp) (by simp); subst this
    split at hE
    · rename_i r hr
      simp only [Ex] at hE
      obtain ⟨rfl, rfl, _, _⟩ := hE
      exact ⟨rfl, _, by simp [Go.binOp, bitsI_ok hr]; rfl, by simp only [AVok]⟩
    · simp only [Ex] at hE
  all_goals
    obtain ⟨rfl, rfl, _, _⟩ := hE
    have := hkk (by simp) (by simp); subst this
    exact ⟨rfl, _, by simp [Go.binOp, Op.intArith, Op.intCmp]; rfl, by simp only [AVok]⟩
theorem binS_ok {op : BinOp} {a b : ByteArray} {t : Nat} (hE : Ex P (binS op a b) u m v m' A W) :
    m' = m ∧ ∃ vv, (Go.binOp op t (.string a) (.string b)).run P w = .ok vv w ∧ AVok c hd m w.heap v vv := by
  cases op <;> simp only [binS, Ex] at hE
  case add =>
    obtain ⟨h0, rfl, rfl, _, _⟩ := hE
    have : ¬ ((a.size + b.size : Nat) : Int) > IntKind.i64.max := by omega
    exact ⟨rfl, _, by simp only [Go.binOp, Op.stringOp, this, if_false]; rfl, by simp only [AVok]⟩
  all_goals
    obtain ⟨rfl, rfl, _, _⟩ := hE
    exact ⟨rfl, _, rfl, by simp only [AVok]⟩
theorem guard_int {op : BinOp} {t : Nat} {x y : Operand} {k k' : IntKind} {a b : Int} : (Go.eqGuard op t x y (.int k a) (.int k' b)).run P w = .ok () w := by
  cases op <;> rfl
theorem guard_str {op : BinOp} {t : Nat} {x y : Operand} {a b : ByteArray} : (Go.eqGuard op t x y (.string a) (.string b)).run P w = .ok () w := by
  cases op <;> rfl
theorem eq_bool {t : Nat} (hu : P.underlying t = some .bool) (a b : Bool) : (Op.equal t (.bool a) (.bool b)).run P w = .ok (a == b) w := by
  unfold Op.equal
  generalize hd : Op.maxDepth = d
  cases d with
  | zero => exact absurd hd (by unfold Op.maxDepth; decide)
  | succ d => simp only [Op.equalIn, Sem.run_bind, run_underlying hu w, Result.andThen_ok, Sem.run_pure]
theorem eq_nil {t e : Nat} (hu : P.underlying t = some (.slice e)) (B : Option Addr) (n C : Nat) : (Op.equal t (.slice B n C) (.slice none 0 0)).run P w = .ok B.isNone w := by
  unfold Op.equal
  generalize hd : Op.maxDepth = d
  cases d with
  | zero => exact absurd hd (by unfold Op.maxDepth; decide)
  | succ d => cases B <;> simp only [Op.equalIn, Sem.run_bind, run_underlying hu w, Result.andThen_ok, Sem.run_pure, Option.isNone]
theorem bin_ok (hτ : TTok P τ) {op : BinOp} {t : Nat} {ox oy : Operand} {x y : AV} {xv yv : Value} (hx : AVok c hd m w.heap x xv) (hy : AVok c hd m w.heap y yv) (hE : Ex P (bin τ t op x y) u m v m' A W) :
    m' = m ∧ ∃ vv, (do Go.eqGuard op t ox oy xv yv; Go.binOp op t xv yv : Sem Value).run P w = .ok vv w ∧ AVok c hd m w.heap v vv := by
  unfold bin at hE
  split at hE
  · rename_i a b
    simp only [AVok] at hx hy
    subst hx; subst hy
    split at hE
    · rename_i ht
      obtain ⟨d, hu, hd'⟩ := (hτ t _ ht).undR
      have hu : P.underlying t = some .bool := by
        cases d <;> simp [kdOf] at hd'
        exact hu
      have h1 := run_underlying hu w
      split at hE
      all_goals first
        | (simp only [Ex] at hE
           obtain ⟨rfl, rfl, _, _⟩ := hE
           exact ⟨rfl, _, by simp only [Go.eqGuard, Go.binOp, Sem.run_bind, eq_bool hu, Result.andThen_ok, Sem.run_pure]; rfl, by simp only [AVok]⟩)
        | simp only [Ex] at hE
    · simp only [Ex] at hE
  · rename_i k a k' b
    simp only [AVok] at hx hy
    subst hx; subst hy
    have fin : ∀ {hk : k = k' ∨ op = .shl ∨ op = .shr}, Ex P (binI op k a b) u m v m' A W → m' = m ∧ ∃ vv, (do Go.eqGuard op t ox oy (.int k a) (.int k' b); Go.binOp op t (.int k a) (.int k' b) : Sem Value).run P w = .ok vv w ∧ AVok c hd m w.heap v vv := by
      intro hk hE
      obtain ⟨h1, vv, h2, h3⟩ := binI_ok (c := c) (hd := hd) (w := w) (t := t) hk hE
      exact ⟨h1, vv, by rw [Sem.run_bind, guard_int, Result.andThen_ok]; exact h2, h3⟩
    split at hE
    · exact fin (hk := .inr (.inl rfl)) hE
    · exact fin (hk := .inr (.inr rfl)) hE
    · split at hE
      · rename_i hk; exact fin (hk := .inl hk) hE
      · simp only [Ex] at hE
  · rename_i a b
    simp only [AVok] at hx hy
    subst hx; subst hy
    obtain ⟨h1, vv, h2, h3⟩ := binS_ok (c := c) (hd := hd) (w := w) (t := t) hE
    exact ⟨h1, vv, by rw [Sem.run_bind, guard_str, Result.andThen_ok]; exact h2, h3⟩
  · simp only [Ex] at hE
theorem una_ok {op : UnOp} {x : AV} {xv : Value} (hx : AVok c hd m w.heap x xv) (hE : Ex P (una op x) u m v m' A W) :
    m' = m ∧ ∃ vv, (Op.unary op xv).run P w = .ok vv w ∧ AVok c hd m w.heap v vv := by
  unfold una at hE
  split at hE
  · simp only [AVok] at hx; subst hx
    simp only [Ex] at hE
    obtain ⟨rfl, rfl, _, _⟩ := hE
    exact ⟨rfl, _, rfl, by simp only [AVok]⟩
  · simp only [AVok] at hx; subst hx
    simp only [Ex] at hE
    obtain ⟨rfl, rfl, _, _⟩ := hE
    exact ⟨rfl, _, rfl, by simp only [AVok]⟩
  · simp only [AVok] at hx; subst hx
    split at hE
    · rename_i r hr
      simp only [Ex] at hE
      obtain ⟨rfl, rfl, _, _⟩ := hE
      exact ⟨rfl, _, by simp [Op.unary, bitsI_ok hr]; rfl, by simp only [AVok]⟩
    · simp only [Ex] at hE
  · simp only [Ex] at hE
theorem pick_ok {x y z : AV} {xv yv zv : Value} (hx : AVok c hd m w.heap x xv) (hy : AVok c hd m w.heap y yv) (hz : AVok c hd m w.heap z zv) (hE : Ex P (pickA x y z) u m v m' A W) :
    m' = m ∧ ∃ vv, (do pure (if ← asBool xv then yv else zv) : Sem Value).run P w = .ok vv w ∧ AVok c hd m w.heap v vv := by
  unfold pickA at hE
  split at hE
  · rename_i b
    simp only [AVok] at hx; subst hx
    simp only [Ex] at hE
    obtain ⟨rfl, rfl, _, _⟩ := hE
    refine ⟨rfl, _, by simp [asBool]; rfl, ?_⟩
    cases b
    · exact hz
    · exact hy
  · simp only [Ex] at hE
theorem minmax_ok {mx : Bool} : ∀ {xs : List AV} {x : AV} {xv : Value} {vs : List Value}, AVok c hd m w.heap x xv → AVokL c hd m w.heap xs vs → Ex P (minmaxA mx x xs) u m v m' A W →
    m' = m ∧ ∃ vv, (vs.foldlM (if mx then Builtin.max2 else Builtin.min2) xv).run P w = .ok vv w ∧ AVok c hd m w.heap v vv
  | [], x, xv, vs, hx, hl, hE => by
    simp only [AVokL] at hl; subst hl
    unfold minmaxA at hE
    simp only [Ex] at hE
    obtain ⟨rfl, rfl, _, _⟩ := hE
    exact ⟨rfl, xv, by simp, hx⟩
  | y :: ys, x, xv, vs, hx, hl, hE => by
    simp only [AVokL] at hl
    obtain ⟨yv, us, rfl, h1, h2⟩ := hl
    cases x <;> cases y <;> simp only [minmaxA, Ex] at hE
    rename_i k a k' b
    simp only [AVok] at hx h1
    subst hx; subst h1
    obtain ⟨r1, vv, r2, r3⟩ := minmax_ok (mx := mx) (xv := .int k (if mx then (if a < b then b else a) else if b < a then b else a)) (by simp only [AVok]) h2 hE
    refine ⟨r1, vv, ?_, r3⟩
    rw [List.foldlM_cons, Sem.run_bind]
    cases mx <;> simpa [Builtin.max2, Builtin.min2] using r2

/-! ### a new variable -/
theorem zeroAV : ∀ (sh : List CK), AVokL c hd m w.heap (sh.map CK.av) (sh.map CK.zero) ∧ ∀ x, x ∈ sh.map CK.zero → x.oneCell' = true
  | [] => by simp [AVokL]
  | k :: ks => by
    obtain ⟨h1, h2⟩ := zeroAV ks
    simp only [List.map_cons, AVokL]
    refine ⟨⟨_, _, rfl, ?_, h1⟩, fun x hx => ?_⟩
    · cases k with
      | sc z => cases z <;> simp only [CK.av, CK.zero, AVok]
      | sl sz => simp only [CK.av, CK.zero, AVok]; exact ⟨none, rfl⟩
      | pt t => simp only [CK.av, AVok]
    · rcases List.mem_cons.1 hx with rfl | hx
      · cases k with
        | sc z => cases z <;> rfl
        | sl sz => rfl
        | pt t => rfl
      · exact h2 x hx
theorem zeroV_cells {t : Nat} {i : TI} (h : TI.Ok P t i) : i.zeroV.cells.toList = i.sh.map CK.zero := by
  unfold TI.zeroV
  split
  · rfl
  · rename_i hk
    have h1 := h.one (by simpa using hk)
    have h2 := h.len
    match hsh : i.sh, h2 with
    | [k], _ =>
      simp only [List.map_cons, List.map_nil, List.headD_cons]
      cases k with
      | sc z => cases z <;> rfl
      | sl sz => rfl
      | pt t => rfl
    | [], h2 => simp at h2; omega
    | _ :: _ :: _, h2 => simp at h2; omega
theorem newBox_ok (H : HM c hd fp m w X) {D t e : Nat} {xs : List AV} {cur : Array Value} (hx : AVokL c hd m w.heap xs cur.toList) (h1 : ∀ y, y ∈ cur.toList → y.oneCell' = true) (hE : Ex P (mk D (fun g => .box g t xs) fun g => .ret (.ptr D g 0 0)) u m v m' A W) :
    ∃ hd' fp', AVok c hd' m' (pushW w (.cells cur e)).heap v (.pointer (some ⟨w.heap.size, 0, none⟩)) ∧ HM c hd' fp' m' (pushW w (.cells cur e)) X ∧ Evo hd m w.heap hd' m' (pushW w (.cells cur e)).heap := by
  obtain ⟨g, B, V, hE, hg⟩ := mk_ok hE
  simp only [Ex] at hE
  obtain ⟨rfl, rfl, _, _⟩ := hE
  obtain ⟨h2, h3⟩ := HM.new H (.cells cur e) D (blk := .box g t xs) (v := .pointer (some ⟨w.heap.size, 0, none⟩)) hg (fun E ho => by
    simp only [BlkOk, upd_same]
    exact ⟨w.heap.size, cur, e, (0, 0), rfl, ho, .inl (Nat.le_refl _), AVokL.evo E xs hx, h1, rfl⟩)
  exact ⟨_, _, ptr_new, h2, h3⟩
theorem alloc_ok (hτ : TTok P τ) (H : HM c hd fp m w X) {D t : Nat} {ti : TI} (ht : τ t = some ti) (hE : Ex P (mk D (fun g => .box g t (ti.sh.map CK.av)) fun g => .ret (.ptr D g 0 0)) u m v m' A W) :
    ∃ vv w' hd' fp', (Instr.alloc t true (.tuple #[])).run P w = .ok vv w' ∧ AVok c hd' m' w'.heap v vv ∧ HM c hd' fp' m' w' X ∧ Evo hd m w.heap hd' m' w'.heap := by
  have hti := hτ t ti ht
  obtain ⟨z1, z2⟩ := zeroAV (c := c) (hd := hd) (m := m) (w := w) ti.sh
  obtain ⟨hd', fp', h1, h2, h3⟩ := newBox_ok (e := t) H (cur := ti.zeroV.cells) (by rw [zeroV_cells hti]; exact z1) (by rw [zeroV_cells hti]; exact z2) hE
  exact ⟨_, _, hd', fp', by simp only [Instr.alloc, Sem.run_bind, hti.zeroR, Result.andThen_ok, newVar, newRow, run_newObj, Sem.run_pure]; rfl, h1, h2, h3⟩
theorem box_ok (H : HM c hd fp m w X) {D t : Nat} {x : AV} {xv : Value} (hx : AVok c hd m w.heap x xv) (hk : x.known = true) (hE : Ex P (mk D (fun g => .box g t x.cells) fun g => .ret (.ptr D g 0 0)) u m v m' A W) :
    ∃ vv w' hd' fp', (Instr.box t xv).run P w = .ok vv w' ∧ AVok c hd' m' w'.heap v vv ∧ HM c hd' fp' m' w' X ∧ Evo hd m w.heap hd' m' w'.heap := by
  obtain ⟨c1, c2⟩ := AVok.cells hx hk
  obtain ⟨hd', fp', h1, h2, h3⟩ := newBox_ok (e := t) H (cur := xv.cells) c1 c2 hE
  exact ⟨_, _, hd', fp', by simp only [Instr.box, Sem.run_bind, Result.andThen_ok, newVar, newRow, run_newObj, Sem.run_pure]; rfl, h1, h2, h3⟩
end
end Go.AM
