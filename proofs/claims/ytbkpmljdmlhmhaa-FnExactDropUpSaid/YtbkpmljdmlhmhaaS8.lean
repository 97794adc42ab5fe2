import Derived.Test.YtbkpmljdmlhmhaaS6
namespace Go.Proofs.Ytbkpmljdmlhmhaa
open Go Go.AM Ty
set_option maxHeartbeats 1000000
set_option linter.unusedVariables false
set_option linter.unusedSimpArgs false
theorem callF_mono {P : Program} {f : Nat} {args : Array Value} {w : World} {R R' : Ending → World → Prop} (h : CallF P f args w R) (hr : ∀ e w', R e w' → R' e w') : CallF P f args w R' := by
  unfold CallF at *
  cases hq : (callFunc f args).run P w with
  | ok r w' =>
    rw [hq] at h
    cases r with
    | value v => exact hr _ _ h
    | enter g a => exact Calls.mono h hr
    | _ => exact h.elim
  | _ => rw [hq] at h; exact h.elim
/-- arguments that own nothing and are no rows -/
def Bare (rest : List PA) : Prop := ∀ h S vs F T, PAokL h S rest vs F T → F = [] ∧ T = [] ∧ ∀ h' S', PAokL h' S' rest vs [] []
theorem bare_nil : Bare [] := fun h S vs F T H => by
  simp only [PAokL] at H ⊢
  exact ⟨H.2.1, H.2.2, fun _ _ => ⟨H.1, trivial, trivial⟩⟩
theorem bare_str (s : ByteArray) : Bare [.ro (.str s)] := fun h S vs F T H => by
  simp only [PAokL, PAok, Rd, Tr.isRow] at H ⊢
  obtain ⟨v, us, F1, F2, T1, T2, rfl, ⟨h1, rfl, h3⟩, ⟨rfl, rfl, rfl⟩, rfl, rfl⟩ := H
  simp only [Bool.false_eq_true, if_false] at h3
  subst h3
  exact ⟨rfl, rfl, fun _ _ => ⟨v, [], [], [], [], [], rfl, ⟨h1, rfl, by simp⟩, ⟨rfl, rfl, rfl⟩, rfl, rfl⟩⟩
theorem keeps_ok {h : Heap} {T : List Value} : ∀ {rest : List PA} {vs : List Value} {F : List Nat}, PBokL h T (rest.map fun _ => PB.keep) vs F → F = []
  | [], vs, F, H => by simp only [List.map_nil, PBokL] at H; exact H.2
  | p :: ps, vs, F, H => by
    simp only [List.map_cons, PBokL, PBok] at H
    obtain ⟨v, us, F1, F2, rfl, rfl, h2, rfl⟩ := H
    rw [keeps_ok h2]
theorem keeps_mk {h h' : Heap} {T T' : List Value} : ∀ {rest : List PA} {vs : List Value} {F : List Nat}, PBokL h T (rest.map fun _ => PB.keep) vs F → PBokL h' T' (rest.map fun _ => PB.keep) vs []
  | [], vs, F, H => by simp only [List.map_nil, PBokL] at H ⊢; exact ⟨H.1, trivial⟩
  | p :: ps, vs, F, H => by
    simp only [List.map_cons, PBokL, PBok] at H ⊢
    obtain ⟨v, us, F1, F2, rfl, rfl, h2, rfl⟩ := H
    exact ⟨v, us, [], [], rfl, rfl, keeps_mk h2, rfl⟩
/-- what reads a store's rows alone may be handed one's own: they stay -/
theorem ro_own {P : Program} {f t : Nat} {s : St} {rest : List PA} {res : Tr} (hb : Bare rest) (hres : ∀ h T v F, Ow h T res v F → Ow h [] res v F)
    (H : AGood P f (.box t (stRs s) :: rest) res (.box (stTags s) :: rest.map fun _ => PB.keep)) : AGood P f (.box t (stOs s) :: rest) res (.box (stTs s) :: rest.map fun _ => PB.keep) := by
  unfold AGood at *
  obtain ⟨h1, h2, h3⟩ := H
  have hk : ∀ rest : List PA, PB.okRL (rest.map fun _ => PB.keep) := by
    intro rest
    induction rest with
    | nil => simp [PB.okRL]
    | cons p ps ih => simp only [List.map_cons, PB.okRL, PB.okR]; exact ⟨trivial, ih⟩
  refine ⟨h1, ?_, fun w vals F T hpa hnd ht => ?_⟩
  · simp only [PB.okRL, PB.okR, Tr.okRL, Tr.okR]
    exact ⟨⟨sT_plain _, sT_plain _, trivial, trivial, uT_plain _, trivial⟩, hk rest⟩
  simp only [PAokL] at hpa
  obtain ⟨v, us, F1, F2, T1, T2, rfl, hbox, hrest, rfl, rfl⟩ := hpa
  simp only [PAok] at hbox
  obtain ⟨g, cur, e, fr, G, rfl, hg, hfr, hcells, hone, rfl⟩ := hbox
  obtain ⟨rfl, rfl, hrest'⟩ := hb _ _ _ _ _ hrest
  simp only [PAokL, PAok, Rd] at hcells
  obtain ⟨va, _, Fa, _, Ta, _, hcur, ⟨_, oa, rfl⟩, ⟨vb, _, Fb, _, Tb, _, rfl, ⟨_, ob, rfl⟩, ⟨ve, _, Fe, _, Te, _, rfl, ⟨rfl, rfl, hTe⟩, ⟨vn, _, Fn, _, Tn, _, rfl, ⟨rfl, rfl, hTn⟩, ⟨vu, _, Fu, _, Tu, _, rfl, ⟨_, ou, rfl⟩, ⟨rfl, rfl, rfl⟩, rfl, rfl⟩, rfl, rfl⟩, rfl, rfl⟩, rfl, rfl⟩, rfl, rfl⟩ := hcells
  simp only [Tr.isRow, Bool.false_eq_true, if_false] at hTe hTn
  subst hTe; subst hTn
  simp only [List.append_nil, List.nil_append] at hnd ht ⊢
  have ngG := (List.nodup_cons.1 hnd).1
  have hone' : ∀ y, y ∈ [va, vb, vu] → y.oneCell' = true := fun y hy => hone y (by
    rw [hcur]
    simp only [List.mem_cons, List.not_mem_nil, or_false] at hy ⊢
    rcases hy with h | h | h <;> simp [h])
  have hlt : ∀ k, k ∈ Fa ++ (Fb ++ Fu) → k < w.heap.size := fun k hk => by
    rcases List.mem_append.1 hk with h | h
    · exact Ow.lt oa k h
    · rcases List.mem_append.1 h with h | h
      · exact Ow.lt ob k h
      · exact Ow.lt ou k h
  have hS : ∀ k, k ∈ Fa ++ (Fb ++ Fu) → (k ∉ [g] ∧ k < w.heap.size) ∧ w.heap[k]? = w.heap[k]? := fun k hk => ⟨⟨fun h => ngG (by rw [List.mem_singleton] at h; rw [← h]; exact hk), hlt k hk⟩, rfl⟩
  have hpa' : PAokL w.heap (fun k => k ∉ [g] ∧ k < w.heap.size) (.box t (stRs s) :: rest) (.pointer (some ⟨g, 0, none⟩) :: us) [g] [va, vb, vu] := by
    simp only [PAokL]
    refine ⟨_, us, [g], [], [va, vb, vu], [], rfl, ?_, hrest' _ _, rfl, rfl⟩
    simp only [PAok]
    refine ⟨g, cur, e, fr, [], rfl, hg, hfr, ?_, hone, rfl⟩
    rw [hcur]
    simp only [PAokL, PAok, Tr.isRow, if_true, Bool.false_eq_true, if_false]
    refine ⟨va, _, [], [], [va], [vb, vu], rfl, ⟨Rd.frame _ (Ow.rd oa (by simpa only [Tr.plain] using sT_plain _)) (fun k hk => hS k (by simp [hk])), rfl, rfl⟩, ⟨vb, _, [], [], [vb], [vu], rfl, ⟨Rd.frame _ (Ow.rd ob (by simpa only [Tr.plain] using sT_plain _)) (fun k hk => hS k (by simp [hk])), rfl, rfl⟩, ⟨_, _, [], [], [], [vu], rfl, ⟨by simp only [Rd], rfl, rfl⟩, ⟨_, _, [], [], [], [vu], rfl, ⟨by simp only [Rd], rfl, rfl⟩, ⟨vu, _, [], [], [vu], [], rfl, ⟨Rd.frame _ (Ow.rd ou (by simpa only [Tr.plain] using uT_plain _)) (fun k hk => hS k (by simp [hk])), rfl, rfl⟩, ⟨rfl, rfl, rfl⟩, rfl, rfl⟩, rfl, rfl⟩, rfl, rfl⟩, rfl, rfl⟩, rfl, rfl⟩
  refine callF_mono (h3 w _ [g] [va, vb, vu] hpa' (by simp) hone') ?_
  rintro e0 w' ⟨v, G1, G2, he, ho, hbk, hnd', hf⟩
  simp only [PBokL, PBok] at hbk
  obtain ⟨v0, us', H1, H2, hv, ⟨g', cur', e', fr', G', hg', hh', hfr', hc1, hcs, rfl⟩, hks, rfl⟩ := hbk
  injection hv with hv1 hv2
  subst hv2
  rw [← hv1] at hg'
  injection hg' with hg'
  injection hg' with hg'
  injection hg' with hg'
  subst hg'
  have hH2 := keeps_ok hks
  subst hH2
  simp only [OwL, Ow] at hcs
  obtain ⟨xa, _, Xa, _, hcur', ⟨ha, rfl⟩, ⟨xb, _, Xb, _, rfl, ⟨hb', rfl⟩, ⟨xe, _, Xe, _, rfl, ⟨rfl, rfl⟩, ⟨xn, _, Xn, _, rfl, ⟨rfl, rfl⟩, ⟨xu, _, Xu, _, rfl, ⟨hu, rfl⟩, ⟨rfl, rfl⟩, rfl⟩, rfl⟩, rfl⟩, rfl⟩, rfl⟩ := hcs
  simp only [List.getElem?_cons_zero, List.getElem?_cons_succ, Option.some.injEq] at ha hb' hu
  subst ha; subst hb'; subst hu
  simp only [List.append_nil, List.nil_append] at hnd' hf
  have hsame : ∀ k, k ∈ Fa ++ (Fb ++ Fu) → w'.heap[k]? = w.heap[k]? := fun k hk => hf.same k (hlt k hk) (hS k hk).1.1
  have hG1 : ∀ k, k ∈ G1 → w.heap.size ≤ k := fun k hk => by
    rcases hf.own k (by simp [hk]) with h | h
    · exfalso
      rw [List.mem_singleton] at h
      exact (List.nodup_append.1 hnd').2.2 k hk g (by simp) h
    · exact h
  refine ⟨v, G1, g :: (Fa ++ (Fb ++ Fu)), he, hres _ _ _ _ ho, ?_, ?_, ⟨hf.os, hf.tape, hf.output, hf.size, fun k hk hkn => hf.same k hk (fun h => hkn (by rw [List.mem_singleton] at h; simp [h])), fun k hk => ?_⟩⟩
  · simp only [PBokL, PBok]
    refine ⟨_, us, g :: (Fa ++ (Fb ++ Fu)), [], rfl, ⟨g, cur', e', fr', Fa ++ (Fb ++ Fu), rfl, hh', hfr', by simp [cells1, Tr.cellB], ?_, rfl⟩, keeps_mk hks, by simp⟩
    rw [hcur']
    simp only [OwL]
    refine ⟨va, _, Fa, Fb ++ Fu, rfl, Ow.frame _ oa (fun k hk => hsame k (by simp [hk])), ⟨vb, _, Fb, Fu, rfl, Ow.frame _ ob (fun k hk => hsame k (by simp [hk])), ⟨_, _, [], Fu, rfl, by simp [Ow], ⟨_, _, [], Fu, rfl, by simp [Ow], ⟨vu, _, Fu, [], rfl, Ow.frame _ ou (fun k hk => hsame k (by simp [hk])), ⟨rfl, rfl⟩, by simp⟩, by simp⟩, by simp⟩, rfl⟩, rfl⟩
  · refine List.nodup_append.2 ⟨(List.nodup_append.1 hnd').1, hnd, fun a ha b hb2 hab => ?_⟩
    subst hab
    have h5 := hG1 a ha
    rcases List.mem_cons.1 hb2 with h | h
    · have := lt_of_get hg
      omega
    · have := hlt a h
      omega
  · rcases List.mem_append.1 hk with h | h
    · exact .inr (hG1 k h)
    · exact .inl h
theorem leftO (s : St) (h : s.sm) (hn : 0 ≤ s.n ∧ s.n ≤ 1048576) : AGood e.P 141 [.box 56 (stOs s)] (.int .i64 ((s.a.length : Int) - s.n)) [.box (stTs s)] :=
  ro_own (rest := []) bare_nil (fun _ _ _ _ h => by simpa only [Ow] using h) (leftI s h hn)
theorem findO0 (s : St) (id : ByteArray) (h : s.sm) (hh : hasM id s.u = false) : AGood e.P 140 [.box 56 (stOs s), .ro (.str id)] (.tup [.agg [.str emp, .int .i64 0, .row 1 0 [], .bool false], .bool false]) [.box (stTs s), .keep] :=
  ro_own (rest := [.ro (.str id)]) (bare_str id) (fun _ _ _ _ h => by simpa only [Ow, OwL] using h) (findI0 s id h hh)
theorem findO1 (s : St) (id : ByteArray) (h : s.sm) (hh : hasM id s.u = true) : ∃ x : Upp, AGood e.P 140 [.box 56 (stOs s), .ro (.str id)] (.tup [.agg [.str x.s, .int .i64 x.w, .hole, .bool x.f], .bool true]) [.box (stTs s), .keep] := by
  obtain ⟨x, hx⟩ := findI1 s id h hh
  exact ⟨x, ro_own (rest := [.ro (.str id)]) (bare_str id) (fun _ _ _ _ h => by simpa only [Ow, OwL] using h) hx⟩
end Go.Proofs.Ytbkpmljdmlhmhaa
