/- AN ABSTRACT MACHINE, 17: all operations. No condition of its own. -/
import Derived.Test.YtbkpmljdmlhmhaaA15
set_option linter.unusedVariables false
set_option linter.unusedSimpArgs false
namespace Go.AM
open Go AM

/-- the temporaries are as tm says -/
def Rel (c : Ctx) (hd : Nat → Value) (m : Mem) (h : Heap) (tm : Nat → AV) (a : Act) : Prop := ∀ t, AVok c hd m h (tm t) (a.tmps.getD t undef)

section
variable {P : Program} {c : Ctx} {hd : Nat → Value} {fp : Nat → List Nat} {m m' : Mem} {w : World} {X : List Nat} {u : Nat → Bool} {A W : List Nat} {v : AV} {o : Oper} {a : Act} {τ : TTab} {md : Nat → List Hn} {tm : Nat → AV}

theorem cst_ok {h : Heap} (x : Value) : AVok c hd m h (cst x) x := by
  unfold cst; split <;> simp only [AVok]
  exact ⟨none, rfl⟩
theorem evA_ok {h : Heap} (hR : Rel c hd m h tm a) (x : Operand) : AVok c hd m h (evA tm x) (a.eval x) := by
  cases x with
  | tmp t => exact hR t
  | const v => exact cst_ok v
  | global g => simp [evA, AVok]
  | func f => simp [evA, AVok, Act.eval]
theorem Rel.evo {hd' : Nat → Value} {h h' : Heap} (E : Evo hd m h hd' m' h') (hR : Rel c hd m h tm a) : Rel c hd' m' h' tm a := fun t => AVok.evo E _ (hR t)
theorem Rel.put {h : Heap} (hR : Rel c hd m h tm a) {d : Option Nat} {v : AV} {vv : Value} (hv : AVok c hd m h v vv) (hd' : ∀ k, d = some k → k < a.tmps.size) : Rel c hd m h (putA tm d v) (a.put d vv) := by
  intro t
  cases d with
  | none => exact hR t
  | some d =>
    simp only [putA, Act.put]
    by_cases he : t = d
    · subst he
      rw [upd_same, Array.getD_eq_getD_getElem?, Array.getElem?_setIfInBounds_self_of_lt (hd' t rfl)]; exact hv
    · rw [upd_ne _ _ he]
      have : (a.tmps.setIfInBounds d vv).getD t undef = a.tmps.getD t undef := by
        rw [Array.getD_eq_getD_getElem?, Array.getD_eq_getD_getElem?, Array.getElem?_setIfInBounds_ne (Ne.symm he)]
      rw [this]; exact hR t
theorem mapA {h : Heap} {ev : Operand → AV} (hR : ∀ x, AVok c hd m h (ev x) (a.eval x)) : ∀ xs : List Operand, AVokL c hd m h (xs.map ev) (xs.map a.eval)
  | [] => by simp [AVokL]
  | x :: xs => by simp only [List.map_cons, AVokL]; exact ⟨_, _, rfl, hR x, mapA hR xs⟩

theorem arr1 {α : Type} {xs : Array α} {l : List α} (h : xs.toList = l) : xs = l.toArray := by rw [← h]
theorem arr_map {α β : Type} {f : α → β} {xs : Array α} {l : List β} (h : xs.toList.map f = l) : xs.map f = l.toArray := by
  rw [← h]; apply Array.ext'; simp

theorem osem_ok (hτ : TTok P τ) {ev : Operand → AV} {D : Nat} (H : HM c hd fp m w X) (hR : ∀ x, AVok c hd m w.heap (ev x) (a.eval x)) (hn : nilOp o.op = false) (hE : Ex P (osem τ md o ev D) u m v m' A W) : Step P c o a hd m w X v m' := by
  obtain ⟨dst, op, ty, pos, af, gd⟩ := o
  unfold osem at hE
  dsimp only at hE
  have vrun : ∀ {s : Sem Value} {vv : Value} {w' : World}, s.run P w = .ok vv w' → (do Pure.pure (.value (← s)) : Sem Next).run P w = .ok (.value vv) w' := fun h => by simp [Sem.run_bind, h]
  split at hE
  · simp only [Ex] at hE
    obtain ⟨rfl, rfl, _, _⟩ := hE
    exact Step.pure H rfl (hR _) rfl
  · simp only [Ex] at hE
    obtain ⟨rfl, rfl, _, _⟩ := hE
    exact Step.pure H rfl (hR _) rfl
  · obtain ⟨h1, vv, h2, h3⟩ := pick_ok (hR _) (hR _) (hR _) hE
    refine Step.pure H (?_) h3 h1
    simp only [execOp, Sem.run_bind] at h2 ⊢
    cases hb : (asBool (a.eval _)).run P w with
    | ok b w2 => rw [hb] at h2; simp only [Result.andThen_ok, Sem.run_pure] at h2 ⊢; injection h2 with h2 h2'; rw [h2, h2']
    | _ => rw [hb] at h2; simp [Result.andThen] at h2
  · split at hE
    · rename_i ti ht
      obtain ⟨vv, w', hd', fp', h1, h2⟩ := alloc_ok hτ H ht hE
      exact Step.value (vrun h1) h2.1 h2.2.1 h2.2.2
    · simp only [Ex] at hE
  · split at hE
    · split at hE
      · rename_i hk
        obtain ⟨vv, w', hd', fp', h1, h2⟩ := box_ok H (hR _) hk.1 hE
        exact Step.value (vrun h1) h2.1 h2.2.1 h2.2.2
      · simp only [Ex] at hE
    · simp only [Ex] at hE
  · rename_i t ps
    obtain ⟨h1, vv, h2, h3⟩ := build_ok hτ (qs := ps.toList.map fun p => (p.1, a.eval p.2)) (by simp) (fun j i x hj => by
      rw [List.getElem?_map] at hj ⊢
      cases hp : ps.toList[j]? with
      | none => rw [hp] at hj; cases hj
      | some p =>
        rw [hp] at hj
        simp only [Option.map_some, Option.some.injEq, Prod.mk.injEq] at hj
        obtain ⟨rfl, rfl⟩ := hj
        exact ⟨_, rfl, hR _⟩) hE
    refine Step.pure H (vrun ?_) h3 h1
    rw [← h2]
    congr 2
    apply Array.ext'; simp
  · rename_i t n ps
    obtain ⟨vv, w', hd', fp', h1, h2⟩ := buildSlice_ok hτ H (qs := ps.toList.map fun p => (p.1, a.eval p.2)) (by simp) (fun j i x hj => by
      rw [List.getElem?_map] at hj ⊢
      cases hp : ps.toList[j]? with
      | none => rw [hp] at hj; cases hj
      | some p =>
        rw [hp] at hj
        simp only [Option.map_some, Option.some.injEq, Prod.mk.injEq] at hj
        obtain ⟨rfl, rfl⟩ := hj
        exact ⟨_, rfl, hR _⟩) hE
    refine Step.value (vrun ?_) h2.1 h2.2.1 h2.2.2
    rw [← h1]
    congr 2
    apply Array.ext'; simp
  · obtain ⟨h1, vv, h2, h3⟩ := load_ok hτ H (hR _) hE
    exact Step.pure H (vrun h2) h3 h1
  · obtain ⟨h1, w', hd', fp', h2, h3, h4⟩ := store_ok hτ H (hR _) (hR _) hE
    refine Step.skip (w' := w') ?_ h3 h4 h1
    show (do Instr.storeAt _ _ _; Pure.pure Next.skip : Sem Next).run P w = _
    simp [Sem.run_bind, h2]
  · rename_i x
    have hx := hR x
    split at hE
    · rename_i nm g i off he
      rw [he] at hx
      have hx' := hx
      simp only [AVok] at hx
      obtain ⟨⟨b, hb⟩, _⟩ := hx
      simp only [Ex] at hE
      obtain ⟨rfl, rfl, _, _⟩ := hE
      refine Step.pure H (?_) hx' rfl
      simp only [execOp, hb, Sem.run_pure]
    · rename_i cs he
      rw [he] at hx
      have hx' := hx
      simp only [AVok] at hx
      obtain ⟨b, vs, hb, _⟩ := hx
      simp only [Ex] at hE
      obtain ⟨rfl, rfl, _, _⟩ := hE
      refine Step.pure H (?_) hx' rfl
      simp only [execOp, hb, Sem.run_pure]
    · simp only [Ex] at hE
  · split at hE
    · rename_i hv
      simp [nilOp, hv] at hn
    · obtain ⟨h1, vv, h2, h3⟩ := bin_ok hτ (hR _) (hR _) hE
      exact Step.pure H (vrun h2) h3 h1
  · obtain ⟨h1, vv, h2, h3⟩ := bin_ok hτ (hR _) (hR _) hE
    exact Step.pure H (vrun h2) h3 h1
  · obtain ⟨h1, vv, h2, h3⟩ := una_ok (hR _) hE
    exact Step.pure H (vrun h2) h3 h1
  · obtain ⟨vv, w', hd', fp', h1, h2⟩ := conv_ok hτ H (hR _) hE
    exact Step.value (vrun h1) h2.1 h2.2.1 h2.2.2
  · obtain ⟨vv, w', hd', fp', h1, h2⟩ := make_ok hτ H (hR _) (hR _) hE
    exact Step.value (vrun h1) h2.1 h2.2.1 h2.2.2
  · rename_i t x lo hi mx
    cases mx with
    | some mx => simp only [sliceVal, Option.map_some, Ex] at hE
    | none =>
      obtain ⟨h1, vv, h2, h3⟩ := sliceVal_ok hτ H (lov := lo.map a.eval) (hiv := hi.map a.eval) (hR x)
        (fun z hz => by cases lo with
          | none => cases hz
          | some l => simp only [Option.map_some, Option.some.injEq] at hz ⊢; subst hz; exact ⟨_, rfl, hR l⟩) (fun hz => by cases lo <;> simp at hz ⊢)
        (fun z hz => by cases hi with
          | none => cases hz
          | some l => simp only [Option.map_some, Option.some.injEq] at hz ⊢; subst hz; exact ⟨_, rfl, hR l⟩) (fun hz => by cases hi <;> simp at hz ⊢) hE
      exact Step.pure H (vrun h2) h3 h1
  · obtain ⟨h1, vv, h2, h3⟩ := fieldPtr_ok hτ H (hR _) hE
    exact Step.pure H (vrun h2) h3 h1
  · obtain ⟨h1, vv, h2, h3⟩ := fieldVal_ok hτ (hR _) hE
    exact Step.pure H (vrun h2) h3 h1
  · obtain ⟨h1, vv, h2, h3⟩ := indexPtr_ok hτ H (hR _) (hR _) hE
    exact Step.pure H (vrun h2) h3 h1
  · obtain ⟨h1, vv, h2, h3⟩ := indexVal_ok hτ (hR _) (hR _) hE
    exact Step.pure H (vrun h2) h3 h1
  · rename_i x i
    have hx := hR x
    split at hE
    · rename_i cs he
      rw [he] at hx
      simp only [AVok] at hx
      obtain ⟨vs, hb, hx⟩ := hx
      split at hE
      · rename_i y hy
        simp only [Ex] at hE
        obtain ⟨rfl, rfl, _, _⟩ := hE
        obtain ⟨z, hz, hzv⟩ := AVokL.get hx hy
        refine Step.pure H (vrun ?_) hzv rfl
        have hz' : vs[i]? = some z := by rw [← Array.getElem?_toList]; exact hz
        simp only [hb, Instr.extract, hz', Sem.run_pure]
      · simp only [Ex] at hE
    · simp only [Ex] at hE
  · rename_i x args ats
    have hx := hR x
    split at hE
    · rename_i f he
      rw [he] at hx
      simp only [AVok] at hx
      refine callA_ok (vals := args.toList.map a.eval) ?_ H (mapA hR args.toList) hE
      simp only [execOp, resolve, hx, Deferred.ofValue]
      simp [invoke, arr_map rfl]
    · simp only [Ex] at hE
  · rename_i args ats
    split at hE
    · rename_i x t h1 h2
      have hm := mapA hR args.toList
      rw [h1] at hm
      simp only [AVokL] at hm
      obtain ⟨xv, us, e1, hx, rfl⟩ := hm
      obtain ⟨h3, vv, h4, h5⟩ := lenVal_ok (ty := ty) hτ H hx hE
      refine Step.pure H (vrun (s := Builtin.len_ ats ty (args.map a.eval)) ?_) h5 h3
      rw [arr_map e1, arr1 h2]; exact h4
    · simp only [Ex] at hE
  · rename_i args ats
    split at hE
    · rename_i x y t t2 h1 h2
      have hm := mapA hR args.toList
      rw [h1] at hm
      simp only [AVokL] at hm
      obtain ⟨xv, us, e1, hx, yv, us2, rfl, hy, rfl⟩ := hm
      obtain ⟨vv, w', hd', fp', h4, h5⟩ := append_ok (ty := ty) hτ H hx hy hE
      refine Step.value (vrun (s := Builtin.append_ ats ty (args.map a.eval)) ?_) h5.1 h5.2.1 h5.2.2
      rw [arr_map e1, arr1 h2]; exact h4
    · simp only [Ex] at hE
  · rename_i args ats
    split at hE
    · rename_i x r h1
      have hm := mapA hR args.toList
      rw [h1] at hm
      simp only [AVokL] at hm
      obtain ⟨xv, us, e1, hx, hr⟩ := hm
      obtain ⟨h3, vv, h4, h5⟩ := minmax_ok hx hr hE
      refine Step.pure H (vrun (s := Builtin.max_ ats ty (args.map a.eval)) ?_) h5 h3
      rw [arr_map e1]; exact h4
    · simp only [Ex] at hE
  · rename_i args ats
    split at hE
    · rename_i x r h1
      have hm := mapA hR args.toList
      rw [h1] at hm
      simp only [AVokL] at hm
      obtain ⟨xv, us, e1, hx, hr⟩ := hm
      obtain ⟨h3, vv, h4, h5⟩ := minmax_ok hx hr hE
      refine Step.pure H (vrun (s := Builtin.min_ ats ty (args.map a.eval)) ?_) h5 h3
      rw [arr_map e1]; exact h4
    · simp only [Ex] at hE
  · simp only [Ex] at hE

/-- a slice beside nil: the machine says which -/
theorem nilA_ok (H : HM c hd fp m w X) {x : AV} {xv : Value} (hx : AVok c hd m w.heap x xv) : ∃ u : Nat → Bool, ∀ {k : Bool → AV} {v : AV} {m' : Mem} {A W : List Nat}, Ex P (nilA x k) u m v m' A W → m' = m ∧ ∃ B n C, xv = .slice B n C ∧ v = k B.isNone := by
  by_cases hs : ∃ B n C, xv = .slice B n C
  · obtain ⟨B, n, C, rfl⟩ := hs
    refine ⟨fun _ => B.isNone, fun {k v m' A W} hE => ?_⟩
    unfold nilA at hE
    split at hE
    · simp only [Ex] at hE
      exact ⟨hE.2.1, B, n, C, rfl, hE.1⟩
    · rename_i tg sz n' cs
      split at hE
      · simp only [Ex] at hE
        exact ⟨hE.2.1, B, n, C, rfl, hE.1⟩
      · simp only [AVok, Rd] at hx
        obtain ⟨⟨_, B', c', vs, e, _, _, _, h5⟩, _⟩ := hx
        obtain ⟨a, ha, _⟩ := h5 (by simp)
        injection e with e _ _
        subst e; subst ha
        simp only [Ex] at hE
        exact ⟨hE.2.1, _, n, C, rfl, hE.1⟩
    · rename_i nm g
      simp only [Ex] at hE
      obtain ⟨D, rfl, hE⟩ := hE
      cases hm : m nm with
      | none => rw [hm] at hE; simp only [Ex] at hE
      | some b =>
        rw [hm] at hE
        cases b with
        | row g' vv sz n' cs =>
          simp only at hE
          split at hE
          · rename_i hg
            subst hg
            split at hE
            · simp only [Ex] at hE
              exact ⟨hE.2.1, B, n, C, rfl, hE.1⟩
            · have hv := own_eq hx hm
              have hb := H.blk nm _ hm
              simp only [BlkOk, Ow] at hb
              rw [← hv] at hb
              simp only [Ex] at hE
              rcases hb.2 with ⟨_, _, h0, _⟩ | ⟨g0, cap, cur, e, fr, G, e1, _⟩
              · have := hb.1.1; rw [h0] at this; simp at this
              · injection e1 with e1 _ _
                subst e1
                exact ⟨hE.2.1, _, n, C, rfl, hE.1⟩
          · simp only [Ex] at hE
        | _ => simp only [Ex] at hE
    · simp only [Ex] at hE
  · refine ⟨fun _ => true, fun {k v m' A W} hE => ?_⟩
    exfalso
    apply hs
    unfold nilA at hE
    split at hE
    · simp only [AVok] at hx; obtain ⟨B, rfl⟩ := hx; exact ⟨B, 0, 0, rfl⟩
    · simp only [AVok, Rd] at hx
      obtain ⟨⟨_, B, c', vs, e, _⟩, _⟩ := hx
      exact ⟨B, _, c', e⟩
    · rename_i nm g
      simp only [Ex] at hE
      obtain ⟨D, rfl, hE⟩ := hE
      cases hm : m nm with
      | none => rw [hm] at hE; simp only [Ex] at hE
      | some b =>
        rw [hm] at hE
        cases b with
        | row g' vv sz n' cs =>
          simp only at hE
          split at hE
          · rename_i hg
            subst hg
            have hv := own_eq hx hm
            have hb := H.blk nm _ hm
            simp only [BlkOk, Ow] at hb
            rw [← hv] at hb
            rcases hb.2 with ⟨B, e, _⟩ | ⟨g0, cap, cur, e, fr, G, e1, _⟩
            · exact ⟨B, 0, 0, e⟩
            · exact ⟨_, _, _, e1⟩
          · simp only [Ex] at hE
        | _ => simp only [Ex] at hE
    · simp only [Ex] at hE
theorem nilC_eq {v : Value} (h : isNilC v = true) : v = .slice none 0 0 := by
  unfold isNilC at h
  split at h
  · rfl
  · cases h
/-- EVERY OPERATION, for what the machine draws -/
theorem osem_u (hτ : TTok P τ) {ev : Operand → AV} {D : Nat} (H : HM c hd fp m w X) (hR : ∀ x, AVok c hd m w.heap (ev x) (a.eval x)) : ∃ u : Nat → Bool, ∀ v m' A W, Ex P (osem τ md o ev D) u m v m' A W → Step P c o a hd m w X v m' := by
  cases hn : nilOp o.op with
  | false => exact ⟨fun _ => true, fun v m' A W hE => osem_ok hτ H hR hn hE⟩
  | true =>
    obtain ⟨dst, op, ty, pos, af, gd⟩ := o
    simp only at hn
    unfold nilOp at hn
    split at hn
    · rename_i op t x z yt
      have hz := nilC_eq hn
      subst hz
      obtain ⟨u, hu⟩ := nilA_ok (P := P) H (hR x)
      refine ⟨u, fun v m' A W hE => ?_⟩
      unfold osem at hE
      dsimp only at hE
      simp only [isNilC] at hE
      unfold nilCmp at hE
      split at hE
      · rename_i e0 _ _ _ ht
        have hus := (hτ t _ ht).slice rfl w
        have h1 := run_underlying hus w
        split at hE
        · obtain ⟨h2, B, n, C, h3, h4⟩ := hu hE
          refine Step.pure (vv := .bool B.isNone) H ?_ (by rw [h4]; simp only [AVok]) h2
          show (do Pure.pure (.value (← (do Go.eqGuard .eql t x (.const (.slice none 0 0)) (a.eval x) (.slice none 0 0); Go.binOp .eql t (a.eval x) (.slice none 0 0) : Sem Value))) : Sem Next).run P w = _
          rw [h3]
          simp only [Go.eqGuard, Go.binOp, Sem.run_bind, eq_nil hus, Result.andThen_ok, Sem.run_pure]; rfl
        · obtain ⟨h2, B, n, C, h3, h4⟩ := hu hE
          refine Step.pure (vv := .bool (!B.isNone)) H ?_ (by rw [h4]; simp only [AVok]) h2
          show (do Pure.pure (.value (← (do Go.eqGuard .neq t x (.const (.slice none 0 0)) (a.eval x) (.slice none 0 0); Go.binOp .neq t (a.eval x) (.slice none 0 0) : Sem Value))) : Sem Next).run P w = _
          rw [h3]
          simp only [Go.eqGuard, Go.binOp, Sem.run_bind, eq_nil hus, Result.andThen_ok, Sem.run_pure]; rfl
        · simp only [Ex] at hE
      · simp only [Ex] at hE
    · cases hn
end
end Go.AM
