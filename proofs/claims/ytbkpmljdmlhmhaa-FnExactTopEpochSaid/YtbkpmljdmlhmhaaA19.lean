/- AN ABSTRACT MACHINE, 20: a function: what it is handed becomes a state, a state becomes what it gives; its contract from 'aw'. No condition of its own. -/
import Derived.Test.YtbkpmljdmlhmhaaA18
set_option linter.unusedVariables false
set_option linter.unusedSimpArgs false
namespace Go.AM
open Go AM

/-! ### what is handed -/
mutual
def entA (j tg : Nat) (m : Mem) : PA → AV × Mem × Nat × Nat
  | .ro t => match t with
    | .row sz n cs => (.ro (some tg) sz n cs, m, j, tg + 1)
    | t => (t.av, m, j, tg)
  | .own t => match t with
    | .row sz n cs => (.own j 0, upd m j (some (.row 0 0 sz n cs)), j + 1, tg)
    | _ => (.any, m, j, tg)
  | .box t cs => match entL (j + 1) tg m cs with
    | (xs, m1, j1, tg1) => (.ptr j 0 0 0, upd m1 j (some (.box 0 t xs)), j1, tg1)
  | .agg cs => match entL j tg m cs with
    | (xs, m1, j1, tg1) => (.agg xs, m1, j1, tg1)
  | .fn f => (.fn f, m, j, tg)
  | .nils => (.nils, m, j, tg)
def entL (j tg : Nat) (m : Mem) : List PA → List AV × Mem × Nat × Nat
  | [] => ([], m, j, tg)
  | p :: ps => match entA j tg m p with
    | (x, m1, j1, tg1) => match entL j1 tg1 m1 ps with
      | (xs, m2, j2, tg2) => (x :: xs, m2, j2, tg2)
end
def startOf (r : List AV × Mem × Nat × Nat) : AState := ⟨fun t => r.1.getD t .any, r.2.1, r.1⟩
/-- the state at a function's head -/
def start (pas : List PA) : AState := startOf (entL 0 0 (fun _ => none) pas)

/-! ### what is given -/
namespace AM
def outR {α : Type} (τ : TTab) (t : Nat) (x : AV) (k : Tr → AM α) : AM α :=
  match τ t with
  | some i => match i.kd.agg with
    | true => match x with
      | .agg xs => toTL i.sh xs fun ts => k (.agg ts)
      | _ => .fail
    | false => match i.sh with
      | [.pt e] => match x with
        | .ptr nm g 0 0 => getBox nm g fun t' cs => if t' = e then (match τ e with
            | some j => .set nm (.gone g) (toTL j.sh cs fun ts => k (.box e ts))
            | none => .fail) else .fail
        | _ => .fail
      | [c] => toT c x k
      | _ => .fail
  | none => .fail
def outRL {α : Type} (τ : TTab) : List Nat → List AV → (List Tr → AM α) → AM α
  | [], [], k => k []
  | t :: ts, x :: xs, k => outR τ t x fun r => outRL τ ts xs fun rs => k (r :: rs)
  | _, _, _ => .fail
def outRes {α : Type} (τ : TTab) (ts : List Nat) (xs : List AV) (k : Tr → AM α) : AM α :=
  match ts, xs with
  | [t], [x] => outR τ t x k
  | ts, xs => outRL τ ts xs fun rs => k (.tup rs)
def outG1 {α : Type} (x : AV) (k : PB → AM α) : AM α :=
  match x with
  | .own nm g => .get nm fun
    | some (.row g' _ sz n cs) => if g' = g then .set nm (.gone g) (k (.own (.row sz n cs))) else k .gone
    | _ => k .gone
  | _ => k .keep
def outGL {α : Type} : List AV → (List PB → AM α) → AM α
  | [], k => k []
  | x :: xs, k => outG1 x fun p => outGL xs fun ps => k (p :: ps)
def outG {α : Type} (τ : TTab) (x : AV) (k : PB → AM α) : AM α :=
  match x with
  | .ptr nm g 0 0 => getBox nm g fun t cs => match τ t with
    | some j => .set nm (.gone g) (toTL j.sh cs fun ts => k (.box ts))
    | none => .fail
  | .ptr _ _ _ _ => .fail
  | .agg xs => outGL xs fun ps => k (.agg ps)
  | x => outG1 x k
def outGs {α : Type} (τ : TTab) : List AV → (List PB → AM α) → AM α
  | [], k => k []
  | x :: xs, k => outG τ x fun p => outGs τ xs fun ps => k (p :: ps)
/-- the results' values -/
def resAs {α : Type} (τ : TTab) (tm : Nat → AV) : List ResultVar → (List AV → AM α) → AM α
  | [], k => k []
  | .tmp t :: r, k => resAs τ tm r fun xs => k (tm t :: xs)
  | .cell a t :: r, k => (loadA τ t (tm a)).bind fun x => resAs τ tm r fun xs => k (x :: xs)
def outAll (τ : TTab) (ts : List Nat) (rs : List ResultVar) (tm : Nat → AV) (gs : List AV) : AM (Tr × List PB) := resAs τ tm rs fun xs => outRes τ ts xs fun r => outGs τ gs fun ps => .ret (r, ps)
end AM
def finQ (E : Env) (ts : List Nat) (rs : List ResultVar) (res : Tr) (pbs : List PB) (e : Exit) (s : AState) : Prop :=
  match e with
  | .normal | .ret => wpo E.P (AM.outAll E.τ ts rs s.tm s.gs) s.mem fun r _ => r = (res, pbs)
  | _ => False
inductive RG (α : Type) where
  | ok (a : α)
  | look (L : List Tr) (k : List Tr → AM α) (m : Mem)
  | fail
def runG {α : Type} : AM α → Mem → RG α
  | .ret a, m => .ok a
  | .look l k, m => .look l k m
  | .get nm k, m => runG (k (m nm)) m
  | .set nm b k, m => runG k (upd m nm (some b))
  | _, m => .fail
theorem f_run {P : Program} {α : Type} {a : α} : ∀ {p : AM α} {m : Mem}, (match runG p m with
    | .ok x => x = a
    | .look l k m' => wpo P (k l) m' fun r _ => r = a
    | .fail => False) → wpo P p m fun r _ => r = a
  | .ret x, m, h => by simpa only [runG, wpo] using h
  | .look l k, m, h => by simpa only [runG, wpo] using h
  | .get nm k, m, h => by simp only [runG] at h; simp only [wpo]; exact f_run h
  | .set nm b k, m, h => by simp only [runG] at h; simp only [wpo]; exact f_run h
  | .fail, m, h => by simp only [runG] at h
  | .req p k, m, h => by simp only [runG] at h
  | .pick k, m, h => by simp only [runG] at h
  | .call f pas k, m, h => by simp only [runG] at h
theorem f_ok {E : Env} {ts : List Nat} {rs : List ResultVar} {res : Tr} {pbs : List PB} {s : AState} {x : Tr × List PB} (h : runG (AM.outAll E.τ ts rs s.tm s.gs) s.mem = .ok x) (hx : x = (res, pbs)) : wpo E.P (AM.outAll E.τ ts rs s.tm s.gs) s.mem fun r _ => r = (res, pbs) :=
  f_run (by rw [h]; exact hx)
theorem f_look {P : Program} {α : Type} {a : α} {p : AM α} {m m' : Mem} {l l' : List Tr} {k : List Tr → AM α} (h : runG p m = .look l k m') (he : l = l') (hk : wpo P (k l') m' fun r _ => r = a) : wpo P p m fun r _ => r = a :=
  f_run (by rw [h]; subst he; exact hk)
theorem f_ok' {P : Program} {α : Type} {a x : α} {p : AM α} {m : Mem} (h : runG p m = .ok x) (hx : x = a) : wpo P p m fun r _ => r = a :=
  f_run (by rw [h]; exact hx)
theorem Ex.bind {P : Program} {α β : Type} {f : α → AM β} : ∀ (p : AM α) {u m y m' A W}, Ex P (p.bind f) u m y m' A W → ∃ v m1 A1 W1 u' A2 W2, Ex P p u m v m1 A1 W1 ∧ Ex P (f v) u' m1 y m' A2 W2
  | .ret a, u, m, y, m', A, W, h => ⟨a, m, [], [], u, A, W, by simp [Ex], h⟩
  | .fail, u, m, y, m', A, W, h => by simp only [AM.bind, Ex] at h
  | .req p k, u, m, y, m', A, W, h => by
    simp only [AM.bind, Ex] at h
    obtain ⟨v, m1, A1, W1, u', A2, W2, h1, h2⟩ := Ex.bind k h.2
    exact ⟨v, m1, A1, W1, u', A2, W2, ⟨h.1, h1⟩, h2⟩
  | .pick k, u, m, y, m', A, W, h => by
    simp only [AM.bind, Ex] at h
    obtain ⟨v, m1, A1, W1, u', A2, W2, h1, h2⟩ := Ex.bind (k (u 0)) h
    exact ⟨v, m1, A1, W1, u', A2, W2, h1, h2⟩
  | .look L k, u, m, y, m', A, W, h => by
    simp only [AM.bind, Ex] at h
    obtain ⟨v, m1, A1, W1, u', A2, W2, h1, h2⟩ := Ex.bind (k L) h
    exact ⟨v, m1, A1, W1, u', A2, W2, h1, h2⟩
  | .get nm k, u, m, y, m', A, W, h => by
    simp only [AM.bind, Ex] at h
    obtain ⟨B, rfl, h⟩ := h
    obtain ⟨v, m1, A1, W1, u', A2, W2, h1, h2⟩ := Ex.bind (k (m nm)) h
    exact ⟨v, m1, nm :: A1, W1, u', A2, W2, ⟨A1, rfl, h1⟩, h2⟩
  | .set nm b k, u, m, y, m', A, W, h => by
    simp only [AM.bind, Ex] at h
    obtain ⟨B, V, rfl, rfl, h⟩ := h
    obtain ⟨v, m1, A1, W1, u', A2, W2, h1, h2⟩ := Ex.bind k h
    exact ⟨v, m1, nm :: A1, nm :: W1, u', A2, W2, ⟨A1, W1, rfl, rfl, h1⟩, h2⟩
  | .call f pas k, u, m, y, m', A, W, h => by
    simp only [AM.bind, Ex] at h
    obtain ⟨res, pbs, g, h⟩ := h
    obtain ⟨v, m1, A1, W1, u', A2, W2, h1, h2⟩ := Ex.bind (k res pbs) h
    exact ⟨v, m1, A1, W1, u', A2, W2, ⟨res, pbs, g, h1⟩, h2⟩

section
variable {P : Program} {c : Ctx} {hd : Nat → Value} {fp : Nat → List Nat} {m m' : Mem} {w : World} {X Y : List Nat} {u : Nat → Bool} {A W : List Nat} {τ : TTab} {α : Type} {y : α}

theorem outR_ok {t : Nat} {x : AV} {v : Value} {k : Tr → AM α} (H : HM c hd fp m w X) (hx : AVok c hd m w.heap x v) (hE : Ex P (outR τ t x k) u m y m' A W) :
    ∃ r m1 fp1 F A1 W1, Ex P (k r) u m1 y m' A1 W1 ∧ HM c hd fp1 m1 w (F ++ X) ∧ Ow w.heap c.tags r v F ∧ Evo hd m w.heap hd m1 w.heap := by
  unfold outR at hE
  split at hE
  · rename_i i hi
    split at hE
    · split at hE
      · simp only [AVok] at hx
        obtain ⟨vs, rfl, h2, h3⟩ := hx
        obtain ⟨ts, m1, fp1, F, A1, W1, q1, q2, q3, q4, q5, q6⟩ := toTL_ok _ _ H h2 hE
        exact ⟨_, m1, fp1, F, A1, W1, q1, q2, by simp only [Ow]; exact ⟨vs, rfl, q3⟩, q5⟩
      · simp only [Ex] at hE
    · split at hE
      · split at hE
        · rename_i e nm g
          obtain ⟨t', cs, B, rfl, hm, hE⟩ := getBox_ok hE
          split at hE
          · rename_i ht
            subst ht
            split at hE
            · simp only [Ex] at hE
              obtain ⟨B2, V, _, _, hE⟩ := hE
              have hb := H.blk nm _ hm
              simp only [BlkOk] at hb
              obtain ⟨b, cur, e0, fr, h1, h2, h3, h4, h5, h6⟩ := hb
              obtain ⟨k1, k2⟩ := H.out hm (g := g) rfl
              obtain ⟨ts, m1, fp1, F, A1, W1, q1, q2, q3, q4, q5, q6⟩ := toTL_ok _ _ k1 (AVokL.evo k2 cs h4) hE
              rw [h6] at q2
              refine ⟨_, m1, fp1, b :: F, A1, W1, q1, q2.pocket ?_, ?_, k2.trans q5⟩
              · rw [List.cons_append]
                exact (List.perm_middle (l₁ := F) (l₂ := X) (a := b)).symm
              · simp only [AVok] at hx
                obtain ⟨b2, hb2, hg2, hk2⟩ := hx.2
                rw [hm] at hb2; injection hb2 with hb2; subst hb2
                obtain ⟨_, b3, r1, r2⟩ := hk2 rfl
                rw [h1] at r1; injection r1 with r1; injection r1 with r1; injection r1 with r1
                simp only [Ow]
                exact ⟨b, cur, e0, fr, F, by rw [r2, r1], h2, h3, q4, q3, rfl⟩
            · simp only [Ex] at hE
          · simp only [Ex] at hE
        · simp only [Ex] at hE
      · obtain ⟨r, m1, fp1, F, A1, W1, q1, q2, q3, _, q5⟩ := toT_ok H hx hE
        exact ⟨r, m1, fp1, F, A1, W1, q1, q2, q3, q5⟩
      · simp only [Ex] at hE
  · simp only [Ex] at hE

theorem outRL_ok {P : Program} {c : Ctx} {hd : Nat → Value} {w : World} {τ : TTab} {α : Type} {y : α} {u : Nat → Bool} {m' : Mem} : ∀ (ts : List Nat) (xs : List AV) {fp : Nat → List Nat} {m : Mem} {X A W : List Nat} {vs : List Value} {k : List Tr → AM α}, HM c hd fp m w X → AVokL c hd m w.heap xs vs → Ex P (outRL τ ts xs k) u m y m' A W →
    ∃ rs m1 fp1 F A1 W1, Ex P (k rs) u m1 y m' A1 W1 ∧ HM c hd fp1 m1 w (F ++ X) ∧ OwL w.heap c.tags rs vs F ∧ Evo hd m w.heap hd m1 w.heap
  | [], [], fp, m, X, A, W, vs, k, H, hx, hE => by
    simp only [outRL] at hE
    simp only [AVokL] at hx
    subst hx
    exact ⟨[], m, fp, [], A, W, hE, H, by simp [OwL], Evo.refl _ _ _⟩
  | t :: ts, x :: xs, fp, m, X, A, W, vs, k, H, hx, hE => by
    simp only [outRL] at hE
    simp only [AVokL] at hx
    obtain ⟨v, us, rfl, h1, h2⟩ := hx
    obtain ⟨r, m1, fp1, F1, A1, W1, e1, e2, e3, e5⟩ := outR_ok H h1 hE
    obtain ⟨rs, m2, fp2, F2, A2, W2, q1, q2, q3, q5⟩ := outRL_ok ts xs e2 (AVokL.evo e5 xs h2) e1
    refine ⟨r :: rs, m2, fp2, F1 ++ F2, A2, W2, q1, q2.pocket ?_, ?_, e5.trans q5⟩
    · rw [← List.append_assoc]; exact List.perm_append_comm.append_right X
    · simp only [OwL]; exact ⟨v, us, F1, F2, rfl, e3, q3, rfl⟩
  | [], x :: xs, fp, m, X, A, W, vs, k, H, hx, hE => by simp only [outRL, Ex] at hE
  | t :: ts, [], fp, m, X, A, W, vs, k, H, hx, hE => by simp only [outRL, Ex] at hE

def tupOf (vs : List Value) : Value :=
  match vs with
  | [v] => v
  | vs => .tuple vs.toArray
theorem outRes_ok {ts : List Nat} {xs : List AV} {vs : List Value} {k : Tr → AM α} (H : HM c hd fp m w X) (hx : AVokL c hd m w.heap xs vs) (hE : Ex P (outRes τ ts xs k) u m y m' A W) :
    ∃ r m1 fp1 F A1 W1, Ex P (k r) u m1 y m' A1 W1 ∧ HM c hd fp1 m1 w (F ++ X) ∧ Ow w.heap c.tags r (tupOf vs) F ∧ Evo hd m w.heap hd m1 w.heap := by
  unfold outRes at hE
  split at hE
  · simp only [AVokL] at hx
    obtain ⟨v, us, rfl, h1, rfl⟩ := hx
    exact outR_ok H h1 hE
  · rename_i hno
    obtain ⟨rs, m1, fp1, F, A1, W1, q1, q2, q3, q5⟩ := outRL_ok _ _ H hx hE
    have hl := AVokL.length hx
    have e : tupOf vs = .tuple vs.toArray := by
      unfold tupOf
      split
      · match xs, ts, hl with
        | [x], [t], _ => exact (hno t x rfl rfl).elim
        | [x], [], _ => simp only [outRL, Ex] at hE
        | [x], _ :: _ :: _, _ => 
          simp only [outRL] at hE
          simp only [AVokL] at hx
          obtain ⟨v, us, e, h1, rfl⟩ := hx
          obtain ⟨r, m1, fp1, F1, A1, W1, e1, e2, e3, e5⟩ := outR_ok H h1 hE
          simp only [Ex] at e1
      · rfl
    exact ⟨_, m1, fp1, F, A1, W1, q1, q2, by rw [e]; simp only [Ow]; exact ⟨_, rfl, q3⟩, q5⟩

theorem outG1_ok {x : AV} {v : Value} {k : PB → AM α} (H : HM c hd fp m w X) (hx : AVok c hd m w.heap x v) (hE : Ex P (outG1 x k) u m y m' A W) :
    ∃ p m1 fp1 F A1 W1, Ex P (k p) u m1 y m' A1 W1 ∧ HM c hd fp1 m1 w (F ++ X) ∧ PBok w.heap c.tags p v F ∧ Evo hd m w.heap hd m1 w.heap := by
  unfold outG1 at hE
  split at hE
  · rename_i nm g
    simp only [Ex] at hE
    obtain ⟨B, rfl, hE⟩ := hE
    split at hE
    · rename_i g' vv sz n cs hm
      split at hE
      · rename_i hg
        subst hg
        simp only [Ex] at hE
        obtain ⟨B2, V, _, _, hE⟩ := hE
        have hv := own_eq hx hm
        subst hv
        have hb := H.blk nm _ hm
        obtain ⟨h1, h2⟩ := H.out hm (g := g') rfl
        exact ⟨_, _, _, fp nm, _, _, hE, h1, by simp only [PBok]; exact ⟨rfl, hb⟩, h2⟩
      · exact ⟨_, m, fp, [], _, _, hE, H, by simp [PBok], Evo.refl _ _ _⟩
    · exact ⟨_, m, fp, [], _, _, hE, H, by simp [PBok], Evo.refl _ _ _⟩
  · exact ⟨_, m, fp, [], _, _, hE, H, by simp [PBok], Evo.refl _ _ _⟩
theorem outGL_ok {P : Program} {c : Ctx} {hd : Nat → Value} {w : World} {α : Type} {y : α} {u : Nat → Bool} {m' : Mem} : ∀ (xs : List AV) {fp : Nat → List Nat} {m : Mem} {X A W : List Nat} {vs : List Value} {k : List PB → AM α}, HM c hd fp m w X → AVokL c hd m w.heap xs vs → Ex P (outGL xs k) u m y m' A W →
    ∃ ps m1 fp1 F A1 W1, Ex P (k ps) u m1 y m' A1 W1 ∧ HM c hd fp1 m1 w (F ++ X) ∧ PBokL w.heap c.tags ps vs F ∧ Evo hd m w.heap hd m1 w.heap
  | [], fp, m, X, A, W, vs, k, H, hx, hE => by
    simp only [outGL] at hE
    simp only [AVokL] at hx
    subst hx
    exact ⟨[], m, fp, [], A, W, hE, H, by simp [PBokL], Evo.refl _ _ _⟩
  | x :: xs, fp, m, X, A, W, vs, k, H, hx, hE => by
    simp only [outGL] at hE
    simp only [AVokL] at hx
    obtain ⟨v, us, rfl, h1, h2⟩ := hx
    obtain ⟨r, m1, fp1, F1, A1, W1, e1, e2, e3, e5⟩ := outG1_ok H h1 hE
    obtain ⟨rs, m2, fp2, F2, A2, W2, q1, q2, q3, q5⟩ := outGL_ok xs e2 (AVokL.evo e5 xs h2) e1
    refine ⟨r :: rs, m2, fp2, F1 ++ F2, A2, W2, q1, q2.pocket ?_, ?_, e5.trans q5⟩
    · rw [← List.append_assoc]; exact List.perm_append_comm.append_right X
    · simp only [PBokL]; exact ⟨v, us, F1, F2, rfl, e3, q3, rfl⟩
theorem outG_ok {x : AV} {v : Value} {k : PB → AM α} (H : HM c hd fp m w X) (hx : AVok c hd m w.heap x v) (hE : Ex P (outG τ x k) u m y m' A W) :
    ∃ p m1 fp1 F A1 W1, Ex P (k p) u m1 y m' A1 W1 ∧ HM c hd fp1 m1 w (F ++ X) ∧ PBok w.heap c.tags p v F ∧ Evo hd m w.heap hd m1 w.heap := by
  unfold outG at hE
  split at hE
  · rename_i nm g
    obtain ⟨t', cs, B, rfl, hm, hE⟩ := getBox_ok hE
    split at hE
    · simp only [Ex] at hE
      obtain ⟨B2, V, _, _, hE⟩ := hE
      have hb := H.blk nm _ hm
      simp only [BlkOk] at hb
      obtain ⟨b, cur, e0, fr, h1, h2, h3, h4, h5, h6⟩ := hb
      obtain ⟨k1, k2⟩ := H.out hm (g := g) rfl
      obtain ⟨ts, m1, fp1, F, A1, W1, q1, q2, q3, q4, q5, q6⟩ := toTL_ok _ _ k1 (AVokL.evo k2 cs h4) hE
      rw [h6] at q2
      refine ⟨_, m1, fp1, b :: F, A1, W1, q1, q2.pocket ?_, ?_, k2.trans q5⟩
      · rw [List.cons_append]
        exact (List.perm_middle (l₁ := F) (l₂ := X) (a := b)).symm
      · simp only [AVok] at hx
        obtain ⟨b2, hb2, hg2, hk2⟩ := hx.2
        rw [hm] at hb2; injection hb2 with hb2; subst hb2
        obtain ⟨_, b3, r1, r2⟩ := hk2 rfl
        rw [h1] at r1; injection r1 with r1; injection r1 with r1; injection r1 with r1
        simp only [PBok]
        exact ⟨b, cur, e0, fr, F, by rw [r2, r1], h2, h3, q4, q3, rfl⟩
    · simp only [Ex] at hE
  · simp only [Ex] at hE
  · simp only [AVok] at hx
    obtain ⟨vs, rfl, h2, _⟩ := hx
    obtain ⟨ps, m1, fp1, F, A1, W1, q1, q2, q3, q5⟩ := outGL_ok _ H h2 hE
    exact ⟨_, m1, fp1, F, A1, W1, q1, q2, by simp only [PBok]; exact ⟨vs, rfl, q3⟩, q5⟩
  · exact outG1_ok H hx hE
theorem outGs_ok {P : Program} {c : Ctx} {hd : Nat → Value} {w : World} {τ : TTab} {α : Type} {y : α} {u : Nat → Bool} {m' : Mem} : ∀ (xs : List AV) {fp : Nat → List Nat} {m : Mem} {X A W : List Nat} {vs : List Value} {k : List PB → AM α}, HM c hd fp m w X → AVokL c hd m w.heap xs vs → Ex P (outGs τ xs k) u m y m' A W →
    ∃ ps m1 fp1 F A1 W1, Ex P (k ps) u m1 y m' A1 W1 ∧ HM c hd fp1 m1 w (F ++ X) ∧ PBokL w.heap c.tags ps vs F ∧ Evo hd m w.heap hd m1 w.heap
  | [], fp, m, X, A, W, vs, k, H, hx, hE => by
    simp only [outGs] at hE
    simp only [AVokL] at hx
    subst hx
    exact ⟨[], m, fp, [], A, W, hE, H, by simp [PBokL], Evo.refl _ _ _⟩
  | x :: xs, fp, m, X, A, W, vs, k, H, hx, hE => by
    simp only [outGs] at hE
    simp only [AVokL] at hx
    obtain ⟨v, us, rfl, h1, h2⟩ := hx
    obtain ⟨r, m1, fp1, F1, A1, W1, e1, e2, e3, e5⟩ := outG_ok H h1 hE
    obtain ⟨rs, m2, fp2, F2, A2, W2, q1, q2, q3, q5⟩ := outGs_ok xs e2 (AVokL.evo e5 xs h2) e1
    refine ⟨r :: rs, m2, fp2, F1 ++ F2, A2, W2, q1, q2.pocket ?_, ?_, e5.trans q5⟩
    · rw [← List.append_assoc]; exact List.perm_append_comm.append_right X
    · simp only [PBokL]; exact ⟨v, us, F1, F2, rfl, e3, q3, rfl⟩

/-! ### a function's head -/
mutual
theorem Ow.anyTag {h : Heap} {T : List Value} : ∀ (t : Tr) {v F}, Ow h [] t v F → Ow h T t v F
  | .int .., v, F, H | .bool _, v, F, H | .str _, v, F, H | .hole, v, F, H => by simpa only [Ow] using H
  | .tag k, v, F, H => by simp only [Ow] at H; simp at H
  | .row sz n cs, v, F, H => by
    simp only [Ow] at H ⊢
    refine ⟨H.1, H.2.imp id ?_⟩
    rintro ⟨g, cap, cur, e, fr, G, h1, h2, h3, h4, h5, h6, h7, rfl⟩
    exact ⟨g, cap, cur, e, fr, G, h1, h2, h3, h4, h5, h6, OwL.anyTag cs h7, rfl⟩
  | .box t cs, v, F, H => by
    simp only [Ow] at H ⊢
    obtain ⟨g, cur, e, fr, G, h1, h2, h3, h4, h5, rfl⟩ := H
    exact ⟨g, cur, e, fr, G, h1, h2, h3, h4, OwL.anyTag cs h5, rfl⟩
  | .agg cs, v, F, H => by
    simp only [Ow] at H ⊢
    obtain ⟨vs, h1, h2⟩ := H
    exact ⟨vs, h1, OwL.anyTag cs h2⟩
  | .tup cs, v, F, H => by
    simp only [Ow] at H ⊢
    obtain ⟨vs, h1, h2⟩ := H
    exact ⟨vs, h1, OwL.anyTag cs h2⟩
theorem OwL.anyTag {h : Heap} {T : List Value} : ∀ (ts : List Tr) {vs F}, OwL h [] ts vs F → OwL h T ts vs F
  | [], vs, F, H => by simpa only [OwL] using H
  | t :: ts, vs, F, H => by
    simp only [OwL] at H ⊢
    obtain ⟨v, us, F1, F2, rfl, h1, h2, rfl⟩ := H
    exact ⟨v, us, F1, F2, rfl, Ow.anyTag t h1, OwL.anyTag ts h2, rfl⟩
end
def Fresh (m : Mem) (j : Nat) : Prop := ∀ i, j ≤ i → m i = none
mutual
theorem entA_ok {c : Ctx} : ∀ (p : PA) {hd : Nat → Value} {fp : Nat → List Nat} {m : Mem} {X : List Nat} {j tg : Nat} {v : Value} {F : List Nat} {T T0 T1 : List Value}, PAok c.w0.heap c.safe p v F T → HM c hd fp m c.w0 (F ++ X) → c.tags = T0 ++ T ++ T1 → T0.length = tg → Fresh m j → ∀ {x m1 j1 tg1}, entA j tg m p = (x, m1, j1, tg1) →
    ∃ hd' fp', HM c hd' fp' m1 c.w0 X ∧ AVok c hd' m1 c.w0.heap x v ∧ Evo hd m c.w0.heap hd' m1 c.w0.heap ∧ Fresh m1 j1 ∧ j ≤ j1 ∧ tg1 = tg + T.length ∧ (∀ i, i < j → m1 i = m i)
  | .ro t, hd, fp, m, X, j, tg, v, F, T, T0, T1, hp, H, ht, hl, hf, x, m1, j1, tg1, he => by
    simp only [PAok] at hp
    obtain ⟨h1, rfl, h3⟩ := hp
    cases t with
    | row sz n cs =>
      simp only [entA, Prod.mk.injEq] at he
      obtain ⟨rfl, rfl, rfl, rfl⟩ := he
      simp only [Tr.isRow, if_true] at h3
      subst h3
      refine ⟨hd, fp, H, ?_, Evo.refl _ _ _, hf, Nat.le_refl _, rfl, fun _ _ => rfl⟩
      simp only [AVok]
      refine ⟨h1, fun k hk => ?_⟩
      injection hk with hk
      subst hk
      rw [ht, ← hl]
      simp
    | _ =>
      simp only [entA, Prod.mk.injEq] at he
      obtain ⟨rfl, rfl, rfl, rfl⟩ := he
      simp only [Tr.isRow, if_false, Bool.false_eq_true] at h3
      subst h3
      refine ⟨hd, fp, H, ?_, Evo.refl _ _ _, hf, Nat.le_refl _, rfl, fun _ _ => rfl⟩
      first | (simp only [Rd] at h1; simp only [Tr.av, AVok]; exact h1) | simp [Tr.av, AVok]
  | .own t, hd, fp, m, X, j, tg, v, F, T, T0, T1, hp, H, ht, hl, hf, x, m1, j1, tg1, he => by
    simp only [PAok] at hp
    obtain ⟨h1, h2, rfl⟩ := hp
    cases t <;> simp [Tr.isRow] at h1
    rename_i sz n cs
    simp only [entA, Prod.mk.injEq] at he
    obtain ⟨rfl, rfl, rfl, rfl⟩ := he
    have h1c : v.oneCell' = true := by
      simp only [Ow] at h2
      rcases h2.2 with ⟨A, rfl, _⟩ | ⟨g, cap, cur, e, fr, G, rfl, _⟩ <;> rfl
    have hj := hf j (Nat.le_refl _)
    have hnd := (List.nodup_append.1 H.xnd).1
    have hpl : Ow c.w0.heap c.tags (.row sz n cs) v F := Ow.anyTag _ h2
    have st := HM.step (w := c.w0) (w' := c.w0) (Y := F) (X := X) H j (blk := .row 0 0 sz n cs) (v := v) (F := F) (Y' := []) rfl rfl rfl (Nat.le_refl _) (fun _ _ _ _ => rfl) (by simpa using hnd)
      (fun k hk => .inr (.inl (by simpa using hk))) (fun k hk => by cases hk) (fun b0 h0 => by rw [hj] at h0; cases h0)
      (fun E => by simp only [BlkOk, upd_same]; exact hpl)
    refine ⟨_, _, by simpa using st.1, own_new h1c, st.2, fun i hi => ?_, Nat.le_succ _, rfl, fun i hi => upd_ne _ _ (by omega)⟩
    rw [upd_ne _ _ (by omega)]
    exact hf i (by omega)
  | .box t cs, hd, fp, m, X, j, tg, v, F, T, T0, T1, hp, H, ht, hl, hf, x, m1, j1, tg1, he => by
    simp only [PAok] at hp
    obtain ⟨g, cur, e, fr, G, rfl, h2, h3, h4, h5, rfl⟩ := hp
    cases hr : entL (j + 1) tg m cs with
    | mk xs r =>
      obtain ⟨m2, j2, tg2⟩ := r
      simp only [entA, hr, Prod.mk.injEq] at he
      obtain ⟨rfl, rfl, rfl, rfl⟩ := he
      obtain ⟨hd2, fp2, q1, q2, q3, q4, q5, q6, q7⟩ := entL_ok cs (X := g :: X) h4 (H.pocket (by rw [List.cons_append]; exact List.perm_middle)) ht hl (fun i hi => hf i (by omega)) hr
      have hj : m2 j = none := (q7 j (by omega)).trans (hf j (Nat.le_refl _))
      have st := HM.step (w := c.w0) (w' := c.w0) (Y := [g]) (X := X) (by simpa using q1) j (blk := .box 0 t xs) (v := .pointer (some ⟨g, 0, none⟩)) (F := [g]) (Y' := []) rfl rfl rfl (Nat.le_refl _) (fun _ _ _ _ => rfl) (by simp)
        (fun k hk => .inr (.inl (by simpa using hk))) (fun k hk => by cases hk) (fun b0 h0 => by rw [hj] at h0; cases h0)
        (fun E => by
          simp only [BlkOk, upd_same]
          exact ⟨g, cur, e, fr, rfl, h2, h3, AVokL.evo E xs q2, h5, rfl⟩)
      refine ⟨_, _, by simpa using st.1, ptr_new, q3.trans st.2, fun i hi => ?_, by omega, q6, fun i hi => ?_⟩
      · rw [upd_ne _ _ (by omega)]; exact q4 i hi
      · rw [upd_ne _ _ (by omega)]; exact q7 i (by omega)
  | .agg cs, hd, fp, m, X, j, tg, v, F, T, T0, T1, hp, H, ht, hl, hf, x, m1, j1, tg1, he => by
    simp only [PAok] at hp
    obtain ⟨vs, rfl, h4, h5⟩ := hp
    cases hr : entL j tg m cs with
    | mk xs r =>
      obtain ⟨m2, j2, tg2⟩ := r
      simp only [entA, hr, Prod.mk.injEq] at he
      obtain ⟨rfl, rfl, rfl, rfl⟩ := he
      obtain ⟨hd2, fp2, q1, q2, q3, q4, q5, q6, q7⟩ := entL_ok cs h4 H ht hl hf hr
      exact ⟨hd2, fp2, q1, by simp only [AVok]; exact ⟨vs, rfl, q2, h5⟩, q3, q4, q5, q6, q7⟩
  | .fn f, hd, fp, m, X, j, tg, v, F, T, T0, T1, hp, H, ht, hl, hf, x, m1, j1, tg1, he => by
    simp only [PAok] at hp
    obtain ⟨h1, rfl, rfl⟩ := hp
    simp only [entA, Prod.mk.injEq] at he
    obtain ⟨rfl, rfl, rfl, rfl⟩ := he
    exact ⟨hd, fp, H, by simp only [AVok]; exact h1, Evo.refl _ _ _, hf, Nat.le_refl _, rfl, fun _ _ => rfl⟩
  | .nils, hd, fp, m, X, j, tg, v, F, T, T0, T1, hp, H, ht, hl, hf, x, m1, j1, tg1, he => by
    simp only [PAok] at hp
    obtain ⟨h1, rfl, rfl⟩ := hp
    simp only [entA, Prod.mk.injEq] at he
    obtain ⟨rfl, rfl, rfl, rfl⟩ := he
    exact ⟨hd, fp, H, by simp only [AVok]; exact h1, Evo.refl _ _ _, hf, Nat.le_refl _, rfl, fun _ _ => rfl⟩
theorem entL_ok {c : Ctx} : ∀ (ps : List PA) {hd : Nat → Value} {fp : Nat → List Nat} {m : Mem} {X : List Nat} {j tg : Nat} {vs : List Value} {F : List Nat} {T T0 T1 : List Value}, PAokL c.w0.heap c.safe ps vs F T → HM c hd fp m c.w0 (F ++ X) → c.tags = T0 ++ T ++ T1 → T0.length = tg → Fresh m j → ∀ {xs m1 j1 tg1}, entL j tg m ps = (xs, m1, j1, tg1) →
    ∃ hd' fp', HM c hd' fp' m1 c.w0 X ∧ AVokL c hd' m1 c.w0.heap xs vs ∧ Evo hd m c.w0.heap hd' m1 c.w0.heap ∧ Fresh m1 j1 ∧ j ≤ j1 ∧ tg1 = tg + T.length ∧ (∀ i, i < j → m1 i = m i)
  | [], hd, fp, m, X, j, tg, vs, F, T, T0, T1, hp, H, ht, hl, hf, xs, m1, j1, tg1, he => by
    simp only [PAokL] at hp
    obtain ⟨rfl, rfl, rfl⟩ := hp
    simp only [entL, Prod.mk.injEq] at he
    obtain ⟨rfl, rfl, rfl, rfl⟩ := he
    exact ⟨hd, fp, H, by simp [AVokL], Evo.refl _ _ _, hf, Nat.le_refl _, rfl, fun _ _ => rfl⟩
  | p :: ps, hd, fp, m, X, j, tg, vs, F, T, T0, T1, hp, H, ht, hl, hf, xs, m1, j1, tg1, he => by
    simp only [PAokL] at hp
    obtain ⟨v, us, F1, F2, U1, U2, rfl, h1, h2, rfl, rfl⟩ := hp
    cases hr : entA j tg m p with
    | mk x r =>
      obtain ⟨m2, j2, tg2⟩ := r
      cases hr2 : entL j2 tg2 m2 ps with
      | mk ys r2 =>
        obtain ⟨m3, j3, tg3⟩ := r2
        simp only [entL, hr, hr2, Prod.mk.injEq] at he
        obtain ⟨rfl, rfl, rfl, rfl⟩ := he
        obtain ⟨hd2, fp2, q1, q2, q3, q4, q5, q6, q7⟩ := entA_ok p (X := F2 ++ X) (T0 := T0) (T1 := U2 ++ T1) h1 (by simpa using H) (by simpa using ht) hl hf hr
        obtain ⟨hd3, fp3, z1, z2, z3, z4, z5, z6, z7⟩ := entL_ok ps (T0 := T0 ++ U1) (T1 := T1) h2 q1 (by simpa using ht) (by simp [hl, q6]) q4 hr2
        refine ⟨hd3, fp3, z1, by simp only [AVokL]; exact ⟨v, us, rfl, AVok.evo z3 x q2, z2⟩, q3.trans z3, z4, Nat.le_trans q5 z5, by simp [z6, q6]; omega, fun i hi => (z7 i (by omega)).trans (q7 i hi)⟩
end

mutual
theorem PAok.lt {h : Heap} {S : Nat → Prop} : ∀ (p : PA) {v F T}, PAok h S p v F T → ∀ k, k ∈ F → k < h.size
  | .ro t, v, F, T, H => by simp only [PAok] at H; simp [H.2.1]
  | .own t, v, F, T, H => by simp only [PAok] at H; exact Ow.lt H.2.1
  | .box t cs, v, F, T, H => by
    simp only [PAok] at H
    obtain ⟨g, cur, e, fr, G, h1, h2, h3, h4, h5, rfl⟩ := H
    intro k hk
    rcases List.mem_cons.1 hk with rfl | hk
    · exact lt_of_get h2
    · exact PAokL.lt cs h4 k hk
  | .agg cs, v, F, T, H => by
    simp only [PAok] at H
    obtain ⟨vs, h1, h2, h3⟩ := H
    exact PAokL.lt cs h2
  | .fn f, v, F, T, H => by simp only [PAok] at H; simp [H.2.1]
  | .nils, v, F, T, H => by simp only [PAok] at H; simp [H.2.1]
theorem PAokL.lt {h : Heap} {S : Nat → Prop} : ∀ (ps : List PA) {vs F T}, PAokL h S ps vs F T → ∀ k, k ∈ F → k < h.size
  | [], vs, F, T, H => by simp only [PAokL] at H; simp [H.2.1]
  | p :: ps, vs, F, T, H => by
    simp only [PAokL] at H
    obtain ⟨v, us, F1, F2, T1, T2, h1, h2, h3, rfl, h5⟩ := H
    intro k hk
    rcases List.mem_append.1 hk with hk | hk
    · exact PAok.lt p h2 k hk
    · exact PAokL.lt ps h3 k hk
end
theorem PAokL.length {h : Heap} {S : Nat → Prop} : ∀ (ps : List PA) {vs F T}, PAokL h S ps vs F T → vs.length = ps.length
  | [], vs, F, T, H => by simp only [PAokL] at H; simp [H.1]
  | p :: ps, vs, F, T, H => by
    simp only [PAokL] at H
    obtain ⟨v, us, F1, F2, T1, T2, rfl, h2, h3, _⟩ := H
    simp [PAokL.length ps h3]
/-- the results, out of the temporaries -/
theorem resAs_ok {P : Program} {c : Ctx} {hd : Nat → Value} {fp : Nat → List Nat} {w : World} {τ : TTab} {α : Type} {y : α} {m' : Mem} (hτ : TTok P τ) {tm : Nat → AV} {a : Act} : ∀ (rs : List ResultVar) {m : Mem} {u : Nat → Bool} {X A W : List Nat} {k : List AV → AM α}, HM c hd fp m w X → Rel c hd m w.heap tm a → Ex P (resAs τ tm rs k) u m y m' A W →
    ∃ xs vs u' A1 W1, Ex P (k xs) u' m y m' A1 W1 ∧ AVokL c hd m w.heap xs vs ∧ (rs.mapM (fun r => match r with
      | .tmp t => pure (a.tmps.getD t undef)
      | .cell b t => do loadVar t (← asAddr (a.tmps.getD b undef)) : ResultVar → Sem Value)).run P w = .ok vs w
  | [], m, u, X, A, W, k, H, hR, hE => ⟨[], [], u, A, W, by simpa only [resAs] using hE, by simp [AVokL], by simp⟩
  | .tmp t :: r, m, u, X, A, W, k, H, hR, hE => by
    simp only [resAs] at hE
    obtain ⟨xs, vs, u', A1, W1, h1, h2, h3⟩ := resAs_ok hτ r H hR hE
    refine ⟨_, _, u', A1, W1, h1, by simp only [AVokL]; exact ⟨_, vs, rfl, hR t, h2⟩, ?_⟩
    rw [List.mapM_cons]
    simp only [pure_bind, Sem.run_bind, h3, Result.andThen_ok, Sem.run_pure]
  | .cell b t :: r, m, u, X, A, W, k, H, hR, hE => by
    simp only [resAs] at hE
    obtain ⟨v, m1, A1, W1, u1, A2, W2, h1, h2⟩ := Ex.bind _ hE
    obtain ⟨rfl, vv, h3, h4⟩ := load_ok hτ H (hR b) h1
    obtain ⟨xs, vs, u', A3, W3, q1, q2, q3⟩ := resAs_ok hτ r H hR h2
    refine ⟨_, _, u', A3, W3, q1, by simp only [AVokL]; exact ⟨vv, vs, rfl, h4, q2⟩, ?_⟩
    have hptr : ∃ ad, a.tmps.getD b undef = .pointer (some ad) := by
      have hx := hR b
      unfold loadA at h1
      split at h1
      · simp only [Ex] at h1
      · split at h1
        · rename_i he; rw [he] at hx; simp only [AVok] at hx; exact hx.1
        · rename_i he; rw [he] at hx; simp only [AVok] at hx; obtain ⟨ad, _, e, _⟩ := hx; exact ⟨ad, e⟩
        · simp only [Ex] at h1
    obtain ⟨ad, had⟩ := hptr
    rw [List.mapM_cons]
    dsimp only
    rw [had] at h3 ⊢
    have e1 : (asAddr (.pointer (some ad))).run P w = .ok ad w := rfl
    have e2 : (loadVar t ad).run P w = .ok vv w := by
      have : (Instr.loadAt t (.pointer (some ad))).run P w = (loadVar t ad).run P w := by simp [Instr.loadAt, Instr.sureAddr, Sem.run_bind]
      rw [← this]; exact h3
    simp only [Sem.run_bind, e1, Result.andThen_ok, e2, q3, Sem.run_pure]

/-- THE CONTRACT OF A FUNCTION, from what is shown of its body -/
theorem agood {E : Env} (hE : EnvOk E) {f : Nat} {fn : Func} {body : Code} {pas : List PA} {res : Tr} {pbs : List PB} (hf : E.P.funcs[f]? = some fn) (hname : (fn.name == "runtime.NumGoroutine") = false) (hb : fn.body = some body)
    (hN : (dstOk fn.ntmps body && decide (pas.length ≤ fn.ntmps)) = true) (hr : res.okR) (hp : PB.okRL pbs) (hw : aw E body (finQ E fn.resultTypes.toList fn.results.toList res pbs) (start pas)) : AGood E.P f pas res pbs := by
  refine ⟨hr, hp, fun w vals F T hpa hnd ht => ?_⟩
  simp only [Bool.and_eq_true, decide_eq_true_eq] at hN
  obtain ⟨hN, hlen⟩ := hN
  have henter : (callFunc f vals.toArray).run E.P w = .ok (.enter f vals.toArray) w := by
    have hname' : ¬ fn.name = "runtime.NumGoroutine" := by simpa using hname
    simp [callFunc, hf, hname', hb]
  unfold CallF
  rw [henter]
  simp only
  have hvl := PAokL.length _ hpa
  let c : Ctx := ⟨w, F, T⟩
  have H0 : HM c (fun _ => undef) (fun _ => []) (fun _ => none) w (F ++ []) :=
    { blk := fun nm b h => by cases h
      non := fun _ _ => rfl
      nd := fun _ => List.nodup_nil
      dj := fun _ _ _ k hk => by cases hk
      xnd := by simpa using hnd
      xd := fun _ k hk => by cases hk
      reg := fun _ k hk => by cases hk
      xreg := fun k hk => by rw [List.append_nil] at hk; exact ⟨.inl hk, PAokL.lt _ hpa k hk⟩
      os := rfl
      tape := rfl
      output := rfl
      size := Nat.le_refl _
      same := fun _ _ => rfl
      tg1 := ht }
  cases hr0 : entL 0 0 (fun _ => none) pas with
  | mk xs r =>
    obtain ⟨m1, j1, tg1⟩ := r
    obtain ⟨hd1, fp1, q1, q2, q3, _⟩ := entL_ok (c := c) pas (T0 := []) (T1 := []) hpa H0 (by simp [c]) rfl (fun _ _ => rfl) hr0
    have hst : start pas = ⟨fun t => xs.getD t .any, m1, xs⟩ := by unfold start startOf; rw [hr0]
    have hxl := AVokL.length q2
    have hsz : (vals.toArray ++ Array.replicate (fn.ntmps - vals.toArray.size) undef).size = fn.ntmps := by simp; omega
    have HS : Holds c vals fn.ntmps (start pas) { tmps := vals.toArray ++ Array.replicate (fn.ntmps - vals.toArray.size) undef, defers := [] } w := by
      rw [hst]
      refine ⟨hd1, fp1, q1, fun t => ?_, q2, rfl, hsz⟩
      show AVok c hd1 m1 w.heap (xs.getD t .any) _
      rw [List.getD_eq_getElem?_getD]
      cases hx : xs[t]? with
      | none => simp [AVok]
      | some x =>
        obtain ⟨v, hv, hxv⟩ := AVokL.get q2 hx
        have hlt : t < vals.length := (List.getElem?_eq_some_iff.1 hv).1
        rw [Array.getD_eq_getD_getElem?, Array.getElem?_append_left (by simpa using hlt)]
        simp only [List.getElem?_toArray, hv, Option.getD_some]
        exact hxv
    refine calls_of_wp hf hb (wp_mono (aw_ok hE body hw hN HS) fun e a w' hq => ?_)
    obtain ⟨s, hfin, hd, fp, h1, h2, h3, h4, h5⟩ := hq
    have fin : wpo E.P (AM.outAll E.τ fn.resultTypes.toList fn.results.toList s.tm s.gs) s.mem (fun r _ => r = (res, pbs)) → a.defers = [] ∧ ∃ v, (results fn a.tmps).run E.P w' = .ok v w' ∧ CallR w vals F T res pbs (.returned v) w' := by
      intro hwp
      obtain ⟨r, m', A, W, e, rfl⟩ := wpo_ex hwp (fun _ => true)
      unfold AM.outAll at e
      obtain ⟨xs', vs', u', A0, W0, e, ex, er⟩ := resAs_ok hE.τ _ h1 h2 e
      refine ⟨h4, tupOf vs', ?_, ?_⟩
      · unfold results
        have : fn.results = fn.results.toList.toArray := by simp
        rw [this, List.mapM_toArray]
        have er' := er
        simp only [map_eq_pure_bind, bind_assoc, pure_bind, Sem.run_bind]
        erw [er']
        simp only [Result.andThen_ok, Sem.run_pure]
        unfold tupOf
        match vs' with
        | [] => rfl
        | [v] => rfl
        | _ :: _ :: _ => simp
      obtain ⟨r1, m2, fp2, F1, A1, W1, e1, k1, k2, k3⟩ := outRes_ok h1 ex e
      obtain ⟨ps, m3, fp3, F2, A2, W2, e2, k4, k5, k6⟩ := outGs_ok _ k1 (AVokL.evo k3 _ h3) e1
      simp only [Ex, Prod.mk.injEq] at e2
      obtain ⟨⟨rfl, rfl⟩, _⟩ := e2
      have k4' : HM c hd fp3 m3 w' (F1 ++ F2) := k4.pocket (by simpa using List.perm_append_comm)
      refine ⟨_, F1, F2, rfl, k2, k5, k4'.xnd, ⟨k4'.os, k4'.tape, k4'.output, k4'.size, fun k hk hkf => k4'.same k ⟨hkf, hk⟩, fun k hk => (k4'.xreg k hk).1⟩⟩
    cases e with
    | normal => exact fin hfin
    | ret => exact fin hfin
    | exit _ => exact hfin.elim
    | goto _ => exact hfin.elim
    | panic _ => exact hfin.elim
    | outgrown => exact hfin.elim
end
end Go.AM
