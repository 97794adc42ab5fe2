/- AN ABSTRACT MACHINE, 7: the operations: what the machine does at each is what the abstract one says. No condition of its own. -/
import Derived.Test.YtbkpmljdmlhmhaaA5
set_option linter.unusedVariables false
set_option linter.unusedSimpArgs false
namespace Go.AM
open Go AM

/-- what is to be shown of an operation: the machine comes to a value and a world that are as v and m' say -/
def Step (P : Program) (c : Ctx) (o : Oper) (a : Act) (hd : Nat → Value) (m : Mem) (w : World) (X : List Nat) (v : AV) (m' : Mem) : Prop :=
  ∀ (next : Act → World → Prop) (Q : Exit → Act → World → Prop), (∀ vv w' hd' fp', AVok c hd' m' w'.heap v vv → HM c hd' fp' m' w' X → Evo hd m w.heap hd' m' w'.heap → next (a.put o.dst vv) w') → o.wp P a w next Q

section
variable {P : Program} {c : Ctx} {hd : Nat → Value} {fp : Nat → List Nat} {m m' : Mem} {w : World} {X : List Nat} {u : Nat → Bool} {A W : List Nat} {v : AV} {o : Oper} {a : Act}

theorem Step.value {vv : Value} {w' : World} {hd' : Nat → Value} {fp' : Nat → List Nat} (hr : (execOp a.eval o).run P w = .ok (.value vv) w') (h1 : AVok c hd' m' w'.heap v vv) (h2 : HM c hd' fp' m' w' X) (h3 : Evo hd m w.heap hd' m' w'.heap) : Step P c o a hd m w X v m' := by
  intro next Q h
  unfold Oper.wp
  rw [hr]
  exact h vv w' hd' fp' h1 h2 h3
theorem Step.skip {w' : World} {hd' : Nat → Value} {fp' : Nat → List Nat} (hr : (execOp a.eval o).run P w = .ok .skip w') (h2 : HM c hd' fp' m' w' X) (h3 : Evo hd m w.heap hd' m' w'.heap) (hv : v = .any) : Step P c o a hd m w X v m' := by
  intro next Q h
  unfold Oper.wp
  rw [hr]
  exact h undef w' hd' fp' (by subst hv; simp [AVok]) h2 h3
/-- a value and nothing else -/
theorem Step.pure {vv : Value} (H : HM c hd fp m w X) (hr : (execOp a.eval o).run P w = .ok (.value vv) w) (h1 : AVok c hd m w.heap v vv) (hm : m' = m) : Step P c o a hd m w X v m' := by
  subst hm; exact Step.value hr h1 H (Evo.refl _ _ _)

/-! ### a new block -/
def pushW (w : World) (o : Obj) : World := { w with heap := w.heap.push o }
theorem push_at (w : World) (o : Obj) : (pushW w o).heap[w.heap.size]? = some o := by
  show (w.heap.push o)[w.heap.size]? = some o
  simp
theorem push_old (w : World) (o : Obj) (k : Nat) (hk : k < w.heap.size) : (pushW w o).heap[k]? = w.heap[k]? := by
  show (w.heap.push o)[k]? = w.heap[k]?
  rw [Array.getElem?_push, if_neg (by omega)]
theorem HM.new (H : HM c hd fp m w X) (ob : Obj) (nm : Nat) {blk : Blk} {v : Value} (hg : ∀ b0, m nm = some b0 → b0.gen < blk.gen)
    (hb : Evo hd m w.heap (upd hd nm v) (upd m nm (some blk)) (pushW w ob).heap → (pushW w ob).heap[w.heap.size]? = some ob → BlkOk c (upd hd nm v) (upd m nm (some blk)) (pushW w ob).heap nm blk [w.heap.size]) :
    HM c (upd hd nm v) (upd fp nm [w.heap.size]) (upd m nm (some blk)) (pushW w ob) X ∧ Evo hd m w.heap (upd hd nm v) (upd m nm (some blk)) (pushW w ob).heap := by
  have := HM.step (w := w) (Y := []) (X := X) (w' := pushW w ob) (by simpa using H) nm (blk := blk) (v := v) (F := [w.heap.size]) (Y' := []) rfl rfl rfl (by simp [pushW]) (fun k hk _ _ => push_old w ob k hk) (by simp)
    (fun k hk => .inr (.inr (by simp at hk; omega))) (fun k hk => by cases hk)
    (fun b0 h0 => ⟨Nat.le_of_lt (hg b0 h0), fun he => absurd he (Nat.ne_of_lt (hg b0 h0))⟩) (fun E => hb E (push_at w ob))
  simpa using this
/-- a new block that owns what lay in the pocket -/
theorem HM.newRow {F : List Nat} (H : HM c hd fp m w (F ++ X)) (nm : Nat) {g v sz n cap : Nat} {cs : List Tr} {cur : Array Value} {e : Nat} {fr : Nat × Nat} (hg : ∀ b0, m nm = some b0 → b0.gen < g) (hfr : unfr fr cur.size) (hz : cur.size = cap * sz) (hc : n ≤ cap) (hm : cap ≤ maxL)
    (h1 : cells1 cs) (hl : cs.length = n * sz) (ho : OwL w.heap c.tags cs (cur.toList.take (n * sz)) F) :
    HM c (upd hd nm (.slice (some ⟨w.heap.size, 0, none⟩) n cap)) (upd fp nm (w.heap.size :: F)) (upd m nm (some (.row g v sz n cs))) (pushW w (.cells cur e fr)) X ∧
      Evo hd m w.heap (upd hd nm (.slice (some ⟨w.heap.size, 0, none⟩) n cap)) (upd m nm (some (.row g v sz n cs))) (pushW w (.cells cur e fr)).heap := by
  have hF := (List.nodup_append.1 H.xnd).1
  have hlt : ∀ k, k ∈ F → k < w.heap.size := fun k hk => (H.xreg k (List.mem_append_left _ hk)).2
  have := HM.step (w := w) (w' := pushW w (.cells cur e fr)) H nm (blk := .row g v sz n cs) (v := .slice (some ⟨w.heap.size, 0, none⟩) n cap) (F := w.heap.size :: F) (Y' := []) rfl rfl rfl (by simp [pushW]) (fun k hk _ _ => push_old w _ k hk)
    (by simp only [List.append_nil, List.nodup_cons]; exact ⟨fun hk => Nat.lt_irrefl _ (hlt _ hk), hF⟩)
    (fun k hk => by
      simp only [List.append_nil] at hk
      rcases List.mem_cons.1 hk with rfl | hk
      · exact .inr (.inr (Nat.le_refl _))
      · exact .inr (.inl hk)) (fun k hk => by cases hk)
    (fun b0 h0 => ⟨Nat.le_of_lt (hg b0 h0), fun he => absurd he (Nat.ne_of_lt (hg b0 h0))⟩) (fun E => by
      simp only [BlkOk, upd_same, Ow]
      exact ⟨⟨hl, h1⟩, .inr ⟨w.heap.size, cap, cur, e, fr, F, rfl, push_at w _, hfr, hz, hc, hm, OwL.frame _ ho (fun k hk => push_old w _ k (hlt k hk)), rfl⟩⟩)
  simpa using this
/-- a slice of no element, that is none's -/
theorem HM.newNil (H : HM c hd fp m w X) (nm : Nat) {g v sz : Nat} {B : Option Addr} (hg : ∀ b0, m nm = some b0 → b0.gen < g) :
    HM c (upd hd nm (.slice B 0 0)) (upd fp nm []) (upd m nm (some (.row g v sz 0 []))) w X ∧ Evo hd m w.heap (upd hd nm (.slice B 0 0)) (upd m nm (some (.row g v sz 0 []))) w.heap := by
  have := HM.step (w := w) (Y := []) (X := X) (w' := w) (by simpa using H) nm (blk := .row g v sz 0 []) (v := .slice B 0 0) (F := []) (Y' := []) rfl rfl rfl (Nat.le_refl _) (fun _ _ _ _ => rfl) (by simp)
    (fun k hk => by cases hk) (fun k hk => by cases hk)
    (fun b0 h0 => ⟨Nat.le_of_lt (hg b0 h0), fun he => absurd he (Nat.ne_of_lt (hg b0 h0))⟩) (fun E => by simp [BlkOk, upd_same, Ow, cells1])
  simpa using this
theorem own_new {hd : Nat → Value} {m : Mem} {h : Heap} {nm g : Nat} {v : Value} {vv sz n : Nat} {cs : List Tr} (h1 : v.oneCell' = true) : AVok c (upd hd nm v) (upd m nm (some (.row g vv sz n cs))) h (.own nm g) v := by
  simp only [AVok]
  exact ⟨h1, _, upd_same _ _ _, Nat.le_refl _, fun _ => by rw [upd_same]; exact rfl⟩
theorem ptr_new {hd : Nat → Value} {m : Mem} {h : Heap} {nm g t b : Nat} {cs : List AV} : AVok c (upd hd nm (.pointer (some ⟨b, 0, none⟩))) (upd m nm (some (.box g t cs))) h (.ptr nm g 0 0) (.pointer (some ⟨b, 0, none⟩)) := by
  simp only [AVok]
  exact ⟨⟨_, rfl⟩, _, upd_same _ _ _, Nat.le_refl _, fun _ => ⟨rfl, b, upd_same _ _ _, rfl⟩⟩

/-! ### cells -/
theorem run_loadVar {t : Nat} {i : TI} (H : TI.Ok P t i) (w : World) (a : Addr) (vs : List Value) (hl : vs.length = i.size) (hc : ∀ j u, vs[j]? = some u → cellAt w.heap (a.add j) = some u) :
    (loadVar t a).run P w = .ok (if i.kd.agg then .agg vs.toArray else vs.headD undef) w := by
  unfold loadVar
  simp only [Sem.run_bind, H.isAgg, Result.andThen_ok]
  cases hk : i.kd.agg with
  | true =>
    simp only [if_true, Sem.run_bind, H.size, Result.andThen_ok, Sem.run_pure]
    rw [← hl, run_loadCells_list w a vs (fun j u hj => hc j u hj)]
    rfl
  | false =>
    have h1 := H.one hk
    match vs, hl with
    | [x], hl =>
      have := hc 0 x rfl
      have ha : a.add 0 = a := by unfold Addr.add; simp
      rw [ha] at this
      simp only [Bool.false_eq_true, if_false, run_load, cell_eq, this, List.headD_cons]
    | [], hl => simp at hl; omega
    | _ :: _ :: _, hl => simp at hl; omega

theorem one_ok {α : AV} {agg : Bool} {xs : List AV} (hE : Ex P (one agg xs) u m v m' A W) : m' = m ∧ (if agg then v = .agg xs else xs = [v]) := by
  unfold one at hE
  split at hE
  · simp only [Ex] at hE; simp [hE.1, hE.2.1]
  · split at hE
    · simp only [Ex] at hE; simp [hE.1, hE.2.1]
    · simp only [Ex] at hE
/-- a value of cells -/
theorem one_val {hd : Nat → Value} {m : Mem} {h : Heap} {agg : Bool} {xs : List AV} {vs : List Value} (hE : Ex P (one agg xs) u m v m' A W) (hx : AVokL c hd m h xs vs) (h1 : ∀ u, u ∈ vs → u.oneCell' = true) : m' = m ∧ AVok c hd m h v (if agg then .agg vs.toArray else vs.headD undef) := by
  obtain ⟨rfl, h2⟩ := one_ok (α := .any) hE
  refine ⟨rfl, ?_⟩
  cases agg with
  | true =>
    simp only [if_true] at h2 ⊢
    subst h2
    simp only [AVok]
    exact ⟨_, rfl, by simpa using hx, by simpa using h1⟩
  | false =>
    simp only [Bool.false_eq_true, if_false] at h2 ⊢
    subst h2
    simp only [AVokL] at hx
    obtain ⟨x, us, rfl, h3, rfl⟩ := hx
    exact h3

theorem elAVs_ok {nm g vv i sz n : Nat} {b N C : Nat} {cs : List Tr} {h : Heap} {hd : Nat → Value} {m : Mem} (hm : m nm = some (.row g vv sz n cs)) (hi : i < n) (hh : hd nm = .slice (some ⟨b, 0, none⟩) N C) (ht : ∀ u, u ∈ c.tags → u.oneCell' = true) : ∀ (ts : List Tr) {vs : List Value} {F : List Nat} (j : Nat), cells1 ts → OwL h c.tags ts vs F → j + ts.length ≤ sz → (∀ k x, vs[k]? = some x → cellAt h ⟨b, i * sz + j + k, none⟩ = some x) →
    AVokL c hd m h (elAVs nm g vv i j ts) vs
  | [], vs, F, j, _, H, _, _ => by simp only [OwL] at H; simp only [elAVs, AVokL]; exact H.1
  | t :: ts, vs, F, j, h1, H, hj, hc => by
    simp only [OwL] at H
    obtain ⟨x, us, F1, F2, rfl, q1, q2, _⟩ := H
    simp only [List.length_cons] at hj
    simp only [elAVs, AVokL]
    refine ⟨x, us, rfl, ?_, elAVs_ok hm hi hh ht ts (j + 1) (fun t' h' => h1 t' (List.mem_cons_of_mem _ h')) q2 (by omega) (fun k y hk => by have := hc (k + 1) y (by simpa using hk); rw [show i * sz + j + (k + 1) = i * sz + (j + 1) + k by omega] at this; exact this)⟩
    have hone := Ow.oneCell (h1 t (by simp)) ht q1
    cases t <;> simp only [elAV, AVok]
    case int => simp only [Ow] at q1; exact q1.1
    case bool => simp only [Ow] at q1; exact q1.1
    case str => simp only [Ow] at q1; exact q1.1
    case row => exact ⟨hone, _, hm, Nat.le_refl _, fun _ => ⟨Nat.le_refl _, fun _ => ⟨hi, by omega, b, N, C, hh, by have := hc 0 x rfl; simpa using this⟩⟩⟩
theorem OwL.el {h : Heap} {tg : List Value} {cs : List Tr} {vs : List Value} {F : List Nat} (H : OwL h tg cs vs F) (sz i : Nat) : ∃ G, OwL h tg (el cs sz i) ((vs.drop (i * sz)).take sz) G := by
  have hl := OwL.length H
  have e1 : cs = cs.take (i * sz) ++ cs.drop (i * sz) := (List.take_append_drop _ _).symm
  rw [e1] at H
  obtain ⟨v1, v2, F1, F2, rfl, rfl, h1, h2⟩ := OwL.split H
  have l1 := OwL.length h1
  have l2 := OwL.length h2
  rw [List.length_take] at l1
  rw [List.length_drop] at l2
  have hd : (v1 ++ v2).drop (i * sz) = v2 := by
    by_cases hle : i * sz ≤ cs.length
    · exact List.drop_left' (by omega)
    · have : v2 = [] := List.length_eq_zero_iff.1 (by omega)
      subst this
      simp; omega
  rw [hd]
  have e2 : cs.drop (i * sz) = (cs.drop (i * sz)).take sz ++ (cs.drop (i * sz)).drop sz := (List.take_append_drop _ _).symm
  rw [e2] at h2
  obtain ⟨v3, v4, G3, G4, rfl, _, h3, h4⟩ := OwL.split h2
  have l3 := OwL.length h3
  have l4 := OwL.length h4
  rw [List.length_take, List.length_drop] at l3
  rw [List.length_drop, List.length_drop] at l4
  refine ⟨G3, ?_⟩
  unfold Go.AM.el
  have : (v3 ++ v4).take sz = v3 := by
    by_cases hle : sz ≤ cs.length - i * sz
    · exact List.take_left' (by omega)
    · have : v4 = [] := List.length_eq_zero_iff.1 (by omega)
      subst this
      rw [List.append_nil]
      exact List.take_of_length_le (by omega)
  rw [this]
  exact h3
theorem OwL.drop {h : Heap} {tg : List Value} : ∀ {cs : List Tr} {vs : List Value} {F : List Nat} (k : Nat), OwL h tg cs vs F → ∃ G, OwL h tg (cs.drop k) (vs.drop k) G
  | cs, vs, F, 0, H => ⟨F, by simpa using H⟩
  | [], vs, F, k + 1, H => ⟨[], by simp only [OwL] at H; simp [OwL, H.1]⟩
  | t :: ts, vs, F, k + 1, H => by
    simp only [OwL] at H
    obtain ⟨x, us, F1, F2, rfl, q1, q2, _⟩ := H
    simpa using OwL.drop k q2
theorem OwL.take {h : Heap} {tg : List Value} : ∀ {cs : List Tr} {vs : List Value} {F : List Nat} (k : Nat), OwL h tg cs vs F → ∃ G, OwL h tg (cs.take k) (vs.take k) G
  | cs, vs, F, 0, H => ⟨[], by simp [OwL]⟩
  | [], vs, F, k + 1, H => ⟨[], by simp only [OwL] at H; simp [OwL, H.1]⟩
  | t :: ts, vs, F, k + 1, H => by
    simp only [OwL] at H
    obtain ⟨x, us, F1, F2, rfl, q1, q2, _⟩ := H
    obtain ⟨G, q3⟩ := OwL.take k q2
    refine ⟨F1 ++ G, ?_⟩
    simp only [List.take_succ_cons, OwL]
    exact ⟨x, _, F1, G, rfl, q1, q3, rfl⟩
theorem RdL.drop {h : Heap} {S : Nat → Prop} : ∀ {cs : List Tr} {vs : List Value} (k : Nat), RdL h S cs vs → RdL h S (cs.drop k) (vs.drop k)
  | cs, vs, 0, H => by simpa using H
  | [], vs, k + 1, H => by simp only [RdL] at H; simp [RdL, H]
  | t :: ts, vs, k + 1, H => by
    simp only [RdL] at H
    obtain ⟨x, us, rfl, q1, q2⟩ := H
    simpa using RdL.drop k q2
theorem RdL.take {h : Heap} {S : Nat → Prop} : ∀ {cs : List Tr} {vs : List Value} (k : Nat), RdL h S cs vs → RdL h S (cs.take k) (vs.take k)
  | cs, vs, 0, H => by simp [RdL]
  | [], vs, k + 1, H => by simp only [RdL] at H; simp [RdL, H]
  | t :: ts, vs, k + 1, H => by
    simp only [RdL] at H
    obtain ⟨x, us, rfl, q1, q2⟩ := H
    simp only [List.take_succ_cons, RdL]
    exact ⟨x, _, rfl, q1, RdL.take k q2⟩
theorem Rd.one {h : Heap} {S : Nat → Prop} {t : Tr} {x : Value} (h1 : t.cellB = true) (H : Rd h S t x) : x.oneCell' = true := by
  cases t <;> simp only [Rd] at H <;> (try (rw [H]; rfl)) <;> (try exact H.elim)
  case row => obtain ⟨_, A, c, vs, rfl, _⟩ := H; rfl
  case agg => simp [Tr.cellB] at h1
theorem Rd.av {hd : Nat → Value} {m : Mem} {h : Heap} {t : Tr} {x : Value} (h1 : t.cellB = true) (H : Rd c.w0.heap c.safe t x) : AVok c hd m h t.av x := by
  cases t with
  | int k n => simp only [Rd] at H; simp only [Tr.av, AVok]; exact H
  | bool b => simp only [Rd] at H; simp only [Tr.av, AVok]; exact H
  | str s => simp only [Rd] at H; simp only [Tr.av, AVok]; exact H
  | row sz n cs => simp only [Tr.av, AVok]; exact ⟨H, fun k hk => by cases hk⟩
  | _ => simp only [Tr.av, AVok]
theorem RdL.av {hd : Nat → Value} {m : Mem} {h : Heap} : ∀ {ts : List Tr} {vs : List Value}, cells1 ts → RdL c.w0.heap c.safe ts vs → AVokL c hd m h (ts.map Tr.av) vs ∧ ∀ x, x ∈ vs → x.oneCell' = true
  | [], vs, _, H => by simp only [RdL] at H; subst H; simp [AVokL]
  | t :: ts, vs, h1, H => by
    simp only [RdL] at H
    obtain ⟨x, us, rfl, q1, q2⟩ := H
    obtain ⟨k1, k2⟩ := RdL.av (hd := hd) (m := m) (h := h) (fun t' h' => h1 t' (List.mem_cons_of_mem _ h')) q2
    refine ⟨?_, fun y hy => ?_⟩
    · simp only [List.map_cons, AVokL]; exact ⟨x, us, rfl, Rd.av (h1 t (by simp)) q1, k1⟩
    · rcases List.mem_cons.1 hy with rfl | hy
      · exact Rd.one (h1 t (by simp)) q1
      · exact k2 y hy
theorem cells1.sub {ts us : List Tr} (h : cells1 ts) (hs : ∀ t, t ∈ us → t ∈ ts) : cells1 us := fun t ht => h t (hs t ht)
end
end Go.AM
