/- AN ABSTRACT MACHINE, 14: append. No condition of its own. -/
import Derived.Test.YtbkpmljdmlhmhaaA12
set_option linter.unusedVariables false
set_option linter.unusedSimpArgs false
namespace Go.AM
open Go AM

section
variable {P : Program} {c : Ctx} {hd : Nat → Value} {fp : Nat → List Nat} {m m' : Mem} {w : World} {X : List Nat} {u : Nat → Bool} {A W : List Nat} {v : AV} {τ : TTab}

theorem grown_bounds (w : World) (need old e : Nat) (h : need ≤ 140737488355328) : need ≤ grownCap w need old e ∧ grownCap w need old e ≤ maxL := by
  have hun : grownCap w need old e = need + w.tape w.drawn (.appendCap need old e) % (2 ^ 63 - need) := rfl
  rw [hun]
  unfold maxL
  have : 0 < 2 ^ 63 - need := by omega
  have h2 := Nat.mod_lt (w.tape w.drawn (.appendCap need old e)) this
  omega
/-- what becomes of a row of one's own behind which something is appended -/
def Grown (tg : List Value) (w w' : World) (F0 F : List Nat) (sz n : Nat) (cs : List Tr) (vv : Value) : Prop :=
  ∃ F1, Ow w'.heap tg (.row sz n cs) vv F1 ∧ F1.Nodup ∧ (∀ k, k ∈ F1 → k ∈ F0 ∨ k ∈ F ∨ w.heap.size ≤ k) ∧ vv.oneCell' = true ∧ w'.os = w.os ∧ w'.tape = w.tape ∧ w'.output = w.output ∧ w.heap.size ≤ w'.heap.size ∧ ∀ k, k < w.heap.size → k ∉ F0 → w'.heap[k]? = w.heap[k]?
theorem append_core {t t2 ty e : Nat} {ei : TI} {tg : List Value} (hu : P.underlying t = some (.slice e)) (he : TI.Ok P e ei) (hs0 : 0 < ei.size) {xv yv : Value} {n k : Nat} {cs us : List Tr} {news : List Value} {F0 F : List Nat}
    (hx : Ow w.heap tg (.row ei.size n cs) xv F0) (hs : Src P ei.size t2 yv k news w) (hn : OwL w.heap tg us news F) (h1 : cells1 us) (hnd : (F0 ++ F).Nodup) (hb : (n + k) * ei.bytes ≤ 140737488355328) (hb2 : n + k ≤ 140737488355328) :
    ∃ vv w', (Builtin.append_ #[t, t2] ty #[xv, yv]).run P w = .ok vv w' ∧ Grown tg w w' F0 F ei.size (n + k) (cs ++ us) vv := by
  obtain ⟨I, hI, i1, i2, i3⟩ := he.tinfo
  have hs' : Src P I.size t2 yv k news w := by rw [i1]; exact hs
  have hnl := hs.newsLen
  have hul : us.length = k * ei.size := by rw [← OwL.length hn]; exact hnl
  have hxr := hx
  simp only [Ow] at hx
  obtain ⟨⟨hcl, hc1⟩, hx⟩ := hx
  have hlen : (cs ++ us).length = (n + k) * ei.size := by rw [List.length_append, hcl, hul, Nat.add_mul]
  have hc2 : cells1 (cs ++ us) := fun t ht => by
    rcases List.mem_append.1 ht with h | h
    · exact hc1 t h
    · exact h1 t h
  have hF : F.Nodup := (List.nodup_append.1 hnd).2.1
  have hFl := OwL.lt hn
  have hzs : ei.zeroV.cells.size = ei.size := by rw [← Array.length_toList, zeroV_cells he, List.length_map]; exact he.len
  rcases Nat.eq_zero_or_pos k with hk | hk
  · -- nothing
    subst hk
    have hnews : news = [] := List.length_eq_zero_iff.1 (by rw [hnl, Nat.zero_mul])
    have hus : us = [] := List.length_eq_zero_iff.1 (by rw [hul, Nat.zero_mul])
    subst hnews; subst hus
    obtain ⟨B, C, hv, k1, k2, _, _⟩ := slice_of_row hxr
    have hrun := run_append_nothing (P := P) w t t2 ty e I hu hI B n C k1 yv hs'
    rw [← hv] at hrun
    refine ⟨xv, w, hrun, F0, ?_, (List.nodup_append.1 hnd).1, fun k hk => .inl hk, by rw [hv]; rfl, rfl, rfl, rfl, Nat.le_refl _, fun _ _ _ => rfl⟩
    rw [List.append_nil, Nat.add_zero]; exact hxr
  · rcases hx with ⟨B, rfl, rfl, rfl⟩ | ⟨g, cap, cur, e', fr, G, rfl, h2, h3, h4, h5, h6, h7, rfl⟩
    · -- onto an empty one
      have hcs : cs = [] := List.length_eq_zero_iff.1 (by rw [hcl, Nat.zero_mul])
      subst hcs
      have hold : (Builtin.firstCells I.size 0 (.slice B 0 0)).run P w.drew = .ok ([] : List Value).toArray w.drew := by
        cases B with
        | none => rfl
        | some a => simp [Builtin.firstCells, loadCells, loadCellsFrom]
      have hrun := run_append_grow_src (P := P) w t t2 ty e I ei.zeroV hu hI i3 B 0 0 [] hold yv k news hs' (by omega) (by omega) (growslice_fits (by omega) (by rw [i2]; simpa using hb))
      obtain ⟨q1, q2⟩ := grown_bounds w (0 + k) 0 e (by omega)
      refine ⟨_, _, hrun, w.heap.size :: F, ?_, List.nodup_cons.2 ⟨fun hk => Nat.lt_irrefl _ (hFl _ hk), hF⟩, fun j hj => ?_, rfl, rfl, rfl, rfl, ?_, fun j hj _ => ?_⟩
      · simp only [Ow]
        obtain ⟨z, hz⟩ : ∃ z, z = Builtin.zeroCells ei.zeroV.cells (grownCap w (0 + k) 0 e - (0 + k)) := ⟨_, rfl⟩
        have hzz : z.size = (grownCap w (0 + k) 0 e - (0 + k)) * ei.size := by rw [hz]; simp [Builtin.zeroCells, hzs]
        refine ⟨⟨hlen, hc2⟩, .inr ⟨w.heap.size, grownCap w (0 + k) 0 e, ([] ++ news).toArray ++ z, e, (0, 0), F, rfl, by rw [hz]; exact push_at w.drew _, .inl (Nat.le_refl _), ?_, by omega, q2, ?_, rfl⟩⟩
        · rw [Array.size_append, hzz]
          simp only [List.nil_append, List.size_toArray, hnl]
          rw [← Nat.add_mul]; congr 1; omega
        · rw [Array.toList_append, List.take_left' (by simp [hnl])]
          simp only [List.nil_append]
          exact OwL.frame _ hn (fun j hj => push_old w.drew _ j (hFl j hj))
      · rcases List.mem_cons.1 hj with rfl | hj
        · exact .inr (.inr (Nat.le_refl _))
        · exact .inr (.inl hj)
      · show w.heap.size ≤ (w.heap.push _).size
        rw [Array.size_push]; omega
      · exact push_old w.drew _ j hj
    · have hgF : g ∉ F := fun h => (List.nodup_append.1 hnd).2.2 g (by simp) g h rfl
      have hGF : ∀ j, j ∈ G → j ∉ F := fun j hj h => (List.nodup_append.1 hnd).2.2 j (by simp [hj]) j h rfl
      have hgG : g ∉ G := (List.nodup_cons.1 (List.nodup_append.1 hnd).1).1
      have hGn : G.Nodup := (List.nodup_cons.1 (List.nodup_append.1 hnd).1).2
      have hGFn : (G ++ F).Nodup := List.nodup_append.2 ⟨hGn, hF, fun a ha b hb e => hGF a ha (e ▸ hb)⟩
      have hGl := OwL.lt h7
      have hncap : n * ei.size ≤ cur.size := by rw [h4]; exact Nat.mul_le_mul_right _ h5
      by_cases hroom : n + k ≤ cap
      · -- there is room
        have hfit : n * ei.size + news.length ≤ cur.size := by rw [hnl, h4, ← Nat.add_mul]; exact Nat.mul_le_mul_right _ hroom
        have hrun := run_append_room_src (P := P) w t t2 ty e I hu hI g 0 n cap yv k news hs' hroom (fun j hj => by
          rw [cell_eq, cellAt_of h2, i1]; simp; omega) (fun j hj => unfr_frozen h2 h3 (by rw [i1]; omega))
        rw [i1, Nat.zero_add] at hrun
        obtain ⟨cur', q1, q2, q3⟩ := setCells_row news (n * ei.size) w cur h2
        obtain ⟨s1, s2, s3, s4⟩ := setCells_same (b := g) news (n * ei.size) w
        have far : ∀ j, j ≠ g → (w.setCells g (n * ei.size) news).heap[j]? = w.heap[j]? := fun j hj => setCells_far hj _ _ _
        refine ⟨_, _, hrun, g :: (G ++ F), ?_, List.nodup_cons.2 ⟨fun h => by
          rcases List.mem_append.1 h with h | h
          · exact hgG h
          · exact hgF h, hGFn⟩, fun j hj => ?_, rfl, s1, s2, s3, by rw [s4]; exact Nat.le_refl _, fun j hj hjn => far j (fun e => hjn (by simp [e]))⟩
        · simp only [Ow]
          refine ⟨⟨hlen, hc2⟩, .inr ⟨g, cap, cur', e', fr, G ++ F, rfl, q1, by rw [q3]; exact h3, by rw [q3]; exact h4, hroom, h6, ?_, rfl⟩⟩
          have ht : cur'.toList.take ((n + k) * ei.size) = cur.toList.take (n * ei.size) ++ news := by
            rw [q2, setAt_eq _ _ _ (by rw [Array.length_toList]; exact hfit)]
            exact List.take_left' (by rw [List.length_append, List.length_take, Array.length_toList, hnl, Nat.add_mul]; omega)
          rw [ht]
          exact OwL.append (OwL.frame _ h7 (fun j hj => far j (fun e => hgG (e ▸ hj)))) (OwL.frame _ hn (fun j hj => far j (fun e => hgF (e ▸ hj))))
        · rcases List.mem_cons.1 hj with rfl | hj
          · exact .inl (by simp)
          · rcases List.mem_append.1 hj with h | h
            · exact .inl (by simp [h])
            · exact .inr (.inl h)
      · -- there is none
        have hold : (Builtin.firstCells I.size n (.slice (some ⟨g, 0, none⟩) n cap)).run P w.drew = .ok (cur.toList.take (n * ei.size)).toArray w.drew := by
          rw [i1]
          refine run_firstCells_some w.drew ei.size n ⟨g, 0, none⟩ n cap _ (by rw [List.length_take, Array.length_toList]; omega) (fun j y hj => ?_)
          have : w.drew.cell? ((⟨g, 0, none⟩ : Addr).add j) = cellAt w.heap ((⟨g, 0, none⟩ : Addr).add j) := rfl
          rw [this, add_zero_off, cellAt_of h2, ← Array.getElem?_toList]
          rw [List.getElem?_take] at hj
          split at hj
          · exact hj
          · cases hj
        have hrun := run_append_grow_src (P := P) w t t2 ty e I ei.zeroV hu hI i3 (some ⟨g, 0, none⟩) n cap _ hold yv k news hs' (by omega) (by omega) (growslice_fits (by omega) (by rw [i2]; exact hb))
        obtain ⟨q1, q2⟩ := grown_bounds w (n + k) cap e hb2
        refine ⟨_, _, hrun, w.heap.size :: (G ++ F), ?_, List.nodup_cons.2 ⟨fun h => by
          rcases List.mem_append.1 h with h | h
          · exact Nat.lt_irrefl _ (hGl _ h)
          · exact Nat.lt_irrefl _ (hFl _ h), hGFn⟩, fun j hj => ?_, rfl, rfl, rfl, rfl, ?_, fun j hj _ => push_old w.drew _ j hj⟩
        · simp only [Ow]
          obtain ⟨z, hz⟩ : ∃ z, z = Builtin.zeroCells ei.zeroV.cells (grownCap w (n + k) cap e - (n + k)) := ⟨_, rfl⟩
          have hzz : z.size = (grownCap w (n + k) cap e - (n + k)) * ei.size := by rw [hz]; simp [Builtin.zeroCells, hzs]
          have hol : (cur.toList.take (n * ei.size)).length = n * ei.size := by rw [List.length_take, Array.length_toList]; omega
          refine ⟨⟨hlen, hc2⟩, .inr ⟨w.heap.size, grownCap w (n + k) cap e, (cur.toList.take (n * ei.size) ++ news).toArray ++ z, e, (0, 0), G ++ F, rfl, by rw [hz]; exact push_at w.drew _, .inl (Nat.le_refl _), ?_, q1, q2, ?_, rfl⟩⟩
          · rw [Array.size_append, hzz, List.size_toArray, List.length_append, hol, hnl, ← Nat.add_mul, ← Nat.add_mul]
            congr 1; omega
          · rw [Array.toList_append, List.take_left' (by simp only [List.length_append, hol, hnl, Nat.add_mul])]
            simp only
            exact OwL.append (OwL.frame _ h7 (fun j hj => push_old w.drew _ j (hGl j hj))) (OwL.frame _ hn (fun j hj => push_old w.drew _ j (hFl j hj)))
        · rcases List.mem_cons.1 hj with rfl | hj
          · exact .inr (.inr (Nat.le_refl _))
          · rcases List.mem_append.1 hj with h | h
            · exact .inl (by simp [h])
            · exact .inr (.inl h)
        · show w.heap.size ≤ (w.heap.push _).size
          rw [Array.size_push]; omega

theorem rowOf_ok {α : Type} {y' : α} (hτ : TTok P τ) (H : HM c hd fp m w X) {t2 : Nat} {ei : TI} (hs0 : 0 < ei.size) {y : AV} {yv : Value} {k : Nat → List Tr → AM α} (hy : AVok c hd m w.heap y yv) (hE : Ex P (rowOf τ t2 ei y k) u m y' m' A W) :
    ∃ n us m1 fp1 F A1 W1 news, Ex P (k n us) u m1 y' m' A1 W1 ∧ HM c hd fp1 m1 w (F ++ X) ∧ Src P ei.size t2 yv n news w ∧ OwL w.heap c.tags us news F ∧ cells1 us ∧ Evo hd m w.heap hd m1 w.heap := by
  unfold rowOf at hE
  split at hE
  · rename_i ti ht
    obtain ⟨d, hu, hd'⟩ := (hτ t2 _ ht).undR
    -- a slice that reads as cs
    have src : ∀ {e n cs C : _} {B : Option Addr} {vs : List Value}, P.underlying t2 = some (.slice e) → yv = .slice B n C → cs.length = n * ei.size → vs.length = (cs : List Tr).length → (cs ≠ [] → ∃ a, B = some a ∧ ∀ j y, vs[j]? = some y → cellAt w.heap (a.add j) = some y) → (∀ z, z ∈ vs → z.oneCell' = true) → Src P ei.size t2 yv n vs w := by
      intro e n cs C B vs hu' hv hl hvl hc h1
      subst hv
      by_cases hne : cs = []
      · subst hne
        have hn : n = 0 := by
          rcases Nat.eq_zero_or_pos n with h | h
          · exact h
          · have := Nat.mul_pos h hs0
            simp at hl; omega
        subst hn
        have : vs = [] := List.length_eq_zero_iff.1 hvl
        subst this
        cases B with
        | none => exact Src.ofNil w hu' C
        | some a => exact Src.ofSlice w hu' a 0 C [] (by simp) (fun j v hj => by simp at hj) (fun _ h => by cases h)
      · obtain ⟨a, rfl, hc'⟩ := hc hne
        exact Src.ofSlice w hu' a n C vs (by rw [hvl, hl]) hc' h1
    split at hE
    · rename_i hk
      rw [hk] at hd'
      have hd2 : d = .string := by cases d <;> simp [kdOf] at hd' ; rfl
      subst hd2
      split at hE
      · rename_i s
        split at hE
        · rename_i hsz
          simp only [Ex] at hE
          simp only [AVok] at hy; subst hy
          refine ⟨_, _, m, fp, [], A, W, byteCells s, hE, H, by rw [hsz]; exact Src.ofString w hu s, ?_, fun t ht => ?_, Evo.refl _ _ _⟩
          · unfold byteCells
            generalize s.data.toList = l
            induction l with
            | nil => simp [OwL]
            | cons b l ih => simp only [List.map_cons, OwL]; exact ⟨_, _, [], [], rfl, by simp [Ow], ih, rfl⟩
          · obtain ⟨b, _, rfl⟩ := List.mem_map.1 ht; rfl
        · simp only [Ex] at hE
      · simp only [Ex] at hE
    · rename_i e hk
      rw [hk] at hd'
      have hd2 : d = .slice e := by cases d <;> simp [kdOf] at hd' ; rw [hd']
      subst hd2
      split at hE
      · obtain ⟨n, cs, A1, hE, B, C, vs, hv, k1, k2, k3, k4, k5, k6⟩ := rdRow_ok H hy hE
        simp only [Ex] at hE
        obtain ⟨hsc, hE⟩ := hE
        have ho : OwL w.heap c.tags cs vs [] := by
          rcases k6 with ⟨_, k6⟩ | ⟨nm, G, _, k6, _⟩
          · exact Ow_scal hsc k6
          · exact Ow_scal' hsc k6
        have h1 : ∀ z, z ∈ vs → z.oneCell' = true := by
          intro z hz
          obtain ⟨j, hj⟩ := List.mem_iff_getElem?.1 hz
          have hjl := (List.getElem?_eq_some_iff.1 hj).1
          rw [k4] at hjl
          obtain ⟨z', G', e1, e2, _⟩ := OwL.get ho (List.getElem?_eq_getElem hjl)
          rw [hj] at e1; injection e1 with e1; subst e1
          exact Ow.oneCell (k3.2 _ (List.getElem_mem _)) H.tg1 e2
        exact ⟨n, cs, m, fp, [], A1, W, vs, hE, H, src hu hv k3.1 k4 (fun hne => by obtain ⟨a, e1, e2, _⟩ := k5 hne; exact ⟨a, e1, e2⟩) h1, ho, k3.2, Evo.refl _ _ _⟩
      · split at hE
        · rename_i nm g
          obtain ⟨vv, n, cs, B0, rfl, hm, hE⟩ := getRow_ok hE
          simp only [Ex] at hE
          obtain ⟨B2, V, _, _, hE⟩ := hE
          have hv := own_eq hy hm
          have hb := H.blk nm _ hm
          simp only [BlkOk] at hb
          obtain ⟨h1, h2⟩ := H.out hm (g := g) rfl
          -- its cells, without the block that holds them
          have hbb := hb
          simp only [Ow] at hbb
          obtain ⟨⟨hl, hc1⟩, hbb⟩ := hbb
          rcases hbb with ⟨B, e1, rfl, e3⟩ | ⟨g0, cap, cur, e', fr, G, q1, q2, q3, q4, q5, q6, q7, q8⟩
          · have : cs = [] := List.length_eq_zero_iff.1 (by simpa using hl)
            subst this
            rw [e3] at h1
            exact ⟨_, _, _, _, [], _, _, [], hE, h1, src hu (hv.trans e1) (by simp) rfl (fun h => absurd rfl h) (fun _ h => by cases h), by simp [OwL], hc1, h2⟩
          · rw [q8] at h1
            have h1' : HM c hd (upd fp nm []) (upd m nm (some (.gone g))) w (G ++ X) := by
              have := HM.leave (Y := [g0]) (X := G ++ X) (by simpa using h1)
              exact this
            refine ⟨_, _, _, _, G, _, _, _, hE, h1', src hu (hv.trans q1) hl (by rw [OwL.length q7]) (fun _ => ⟨_, rfl, fun j y hj => ?_⟩) (fun z hz => ?_), q7, hc1, h2⟩
            · rw [add_zero_off, cellAt_of q2, ← Array.getElem?_toList]
              rw [List.getElem?_take] at hj
              split at hj
              · exact hj
              · cases hj
            · obtain ⟨j, hj⟩ := List.mem_iff_getElem?.1 hz
              have hjl := (List.getElem?_eq_some_iff.1 hj).1
              rw [OwL.length q7] at hjl
              obtain ⟨z', G', e1, e2, _⟩ := OwL.get q7 (List.getElem?_eq_getElem hjl)
              rw [hj] at e1; injection e1 with e1; subst e1
              exact Ow.oneCell (hc1 _ (List.getElem_mem _)) H.tg1 e2
        · simp only [AVok] at hy
          obtain ⟨B, rfl⟩ := hy
          exact ⟨0, [], m, fp, [], A, W, [], hE, H, src hu rfl (cs := []) (by simp) rfl (fun h => absurd rfl h) (fun _ h => by cases h), by simp [OwL], by simp [cells1], Evo.refl _ _ _⟩
        · simp only [Ex] at hE
    · simp only [Ex] at hE
  · simp only [Ex] at hE

/-- the grown row gets its name -/
theorem grown_put {w' : World} {Y F : List Nat} {sz n g : Nat} {cs : List Tr} {vv : Value} {nm : Nat} (H : HM c hd fp m w ((Y ++ F) ++ X)) (hg : ∀ b0, m nm = some b0 → b0.gen < g) (hG : Grown c.tags w w' Y F sz n cs vv) :
    ∃ hd' fp', AVok c hd' (upd m nm (some (.row g 0 sz n cs))) w'.heap (.own nm g) vv ∧ HM c hd' fp' (upd m nm (some (.row g 0 sz n cs))) w' X ∧ Evo hd m w.heap hd' (upd m nm (some (.row g 0 sz n cs))) w'.heap := by
  obtain ⟨F1, h1, h2, h3, h4, h5, h6, h7, h8, h9⟩ := hG
  have := HM.step (w := w) (Y := Y ++ F) (X := X) (w' := w') H nm (blk := .row g 0 sz n cs) (v := vv) (F := F1) (Y' := []) h5 h6 h7 h8 (fun k hk _ hy => h9 k hk (fun h => hy (List.mem_append_left _ h))) (by simpa using h2)
    (fun k hk => by
      rw [List.append_nil] at hk
      rcases h3 k hk with h | h | h
      · exact .inr (.inl (List.mem_append_left _ h))
      · exact .inr (.inl (List.mem_append_right _ h))
      · exact .inr (.inr h)) (fun k hk => by cases hk)
    (fun b0 h0 => ⟨Nat.le_of_lt (hg b0 h0), fun he => absurd he (Nat.ne_of_lt (hg b0 h0))⟩) (fun E => by simp only [BlkOk, upd_same]; exact h1)
  exact ⟨_, _, own_new h4, by simpa using this.1, this.2⟩
theorem cutsOf_eq {x y : AV} {nm g i off k : Nat} (h : cutsOf x y = some (nm, g, i, off, k)) : x = .cut nm g 0 i ∧ y = .cut nm g off k := by
  unfold cutsOf at h
  split at h
  · split at h
    · rename_i h1
      obtain ⟨rfl, rfl⟩ := h1
      simp only [Option.some.injEq, Prod.mk.injEq] at h
      obtain ⟨rfl, rfl, rfl, rfl, rfl⟩ := h
      exact ⟨rfl, rfl⟩
    · cases h
  · cases h
/-- a later part of a row behind its beginning -/
theorem append_cut (H : HM c hd fp m w X) {t ty e : Nat} {ei : TI} (hu : P.underlying t = some (.slice e)) (he : TI.Ok P e ei) (hs0 : 0 < ei.size) {nm g i off k vv n : Nat} {cs : List Tr} {xv yv : Value} (hm : m nm = some (.row g vv ei.size n cs)) (hx : AVok c hd m w.heap (.cut nm g 0 i) xv) (hy : AVok c hd m w.heap (.cut nm g off k) yv) (hio : i ≤ off)
    (hb : (i + k) * ei.bytes ≤ 140737488355328) (hb2 : i + k ≤ 140737488355328) :
    ∃ vv w' hd' fp', (Builtin.append_ #[t, t] ty #[xv, yv]).run P w = .ok vv w' ∧ AVok c hd' (upd m nm (some (.row (g + 1) 0 ei.size (i + k) (cs.take (i * ei.size) ++ (cs.drop (off * ei.size)).take (k * ei.size))))) w'.heap (.own nm (g + 1)) vv ∧
      HM c hd' fp' (upd m nm (some (.row (g + 1) 0 ei.size (i + k) (cs.take (i * ei.size) ++ (cs.drop (off * ei.size)).take (k * ei.size))))) w' X ∧ Evo hd m w.heap hd' (upd m nm (some (.row (g + 1) 0 ei.size (i + k) (cs.take (i * ei.size) ++ (cs.drop (off * ei.size)).take (k * ei.size))))) w'.heap := by
  simp only [AVok] at hx hy
  obtain ⟨_, b1, hb1, _, hx⟩ := hx
  rw [hm] at hb1; injection hb1 with hb1; subst hb1
  obtain ⟨x1, A, C, rfl, x2, x3, x4, x5⟩ := hx rfl
  obtain ⟨N, hN⟩ := x5 rfl
  obtain ⟨_, b1, hb1, _, hy⟩ := hy
  rw [hm] at hb1; injection hb1 with hb1; subst hb1
  obtain ⟨y1, A', C', rfl, y2, y3, y4, _⟩ := hy rfl
  have hblk := H.blk nm _ hm
  simp only [BlkOk] at hblk
  obtain ⟨o1, o2⟩ := H.out hm (g := g) rfl
  have fin : ∀ {F0 F : List Nat}, HM c hd (upd fp nm []) (upd m nm (some (.gone g))) w ((F0 ++ F) ++ X) → Ow w.heap c.tags (.row ei.size i (cs.take (i * ei.size))) (.slice A i C) F0 → ∀ {news}, Src P ei.size t (.slice A' k C') k news w → OwL w.heap c.tags ((cs.drop (off * ei.size)).take (k * ei.size)) news F → cells1 ((cs.drop (off * ei.size)).take (k * ei.size)) → 
      ∃ vv w' hd' fp', (Builtin.append_ #[t, t] ty #[.slice A i C, .slice A' k C']).run P w = .ok vv w' ∧ AVok c hd' (upd m nm (some (.row (g + 1) 0 ei.size (i + k) (cs.take (i * ei.size) ++ (cs.drop (off * ei.size)).take (k * ei.size))))) w'.heap (.own nm (g + 1)) vv ∧
      HM c hd' fp' (upd m nm (some (.row (g + 1) 0 ei.size (i + k) (cs.take (i * ei.size) ++ (cs.drop (off * ei.size)).take (k * ei.size))))) w' X ∧ Evo hd m w.heap hd' (upd m nm (some (.row (g + 1) 0 ei.size (i + k) (cs.take (i * ei.size) ++ (cs.drop (off * ei.size)).take (k * ei.size))))) w'.heap := by
    intro F0 F h1 h2 news h3 h4 h5
    obtain ⟨vv, w', hrun, hG⟩ := append_core (ty := ty) hu he hs0 h2 h3 h4 h5 (List.nodup_append.1 h1.xnd).1 hb hb2
    obtain ⟨hd', fp', q1, q2, q3⟩ := grown_put (nm := nm) (g := g + 1) h1 (fun b0 h0 => by rw [upd_same] at h0; injection h0 with h0; subst h0; exact Nat.lt_succ_self _) hG
    have huu : ∀ b, upd (upd m nm (some (.gone g))) nm (some b) = upd m nm (some b) := fun b => by funext j; unfold upd; split <;> rfl
    rw [huu] at q1 q2 q3
    exact ⟨vv, w', hd', fp', hrun, q1, q2, o2.trans q3⟩
  have hbb := hblk
  simp only [Ow] at hbb
  obtain ⟨⟨hcl, hc1⟩, hbb⟩ := hbb
  have hc2 : ∀ {ts : List Tr}, (∀ t, t ∈ ts → t ∈ cs) → cells1 ts := fun h => hc1.sub h
  rcases hbb with ⟨B, hB, rfl, hF⟩ | ⟨g0, cap, cur, e', fr, G, q1, q2, q3, q4, q5, q6, q7, q8⟩
  · have hcs : cs = [] := List.length_eq_zero_iff.1 (by rw [hcl, Nat.zero_mul])
    subst hcs
    obtain rfl : i = 0 := by omega
    obtain rfl : k = 0 := by omega
    rw [hB] at hN
    injection hN with e1 e2 e3
    subst e1; subst e3
    have h1 : HM c hd (upd fp nm []) (upd m nm (some (.gone g))) w (([] ++ []) ++ X) := by rw [hF] at o1; exact o1
    refine fin h1 (by simp [Ow, cells1]) (news := []) ?_ (by simp [OwL]) (by simp [cells1])
    cases A' with
    | none => exact Src.ofNil w hu C'
    | some a => exact Src.ofSlice w hu a 0 C' [] (by simp) (fun j v hj => by simp at hj) (fun _ h => by cases h)
  · rw [q1] at hN
    injection hN with e1 e2 e3
    subst e1; subst e3
    have m1 : i * ei.size + (off - i) * ei.size = off * ei.size := by rw [← Nat.add_mul]; congr 1; omega
    have m2 : off * ei.size + k * ei.size ≤ n * ei.size := by rw [← Nat.add_mul]; exact Nat.mul_le_mul_right _ (by omega)
    -- four parts
    have e1 : cs = cs.take (i * ei.size) ++ ((cs.drop (i * ei.size)).take ((off - i) * ei.size) ++ ((cs.drop (off * ei.size)).take (k * ei.size) ++ (cs.drop (off * ei.size)).drop (k * ei.size))) := by
      rw [List.take_append_drop]
      have : cs.drop (off * ei.size) = (cs.drop (i * ei.size)).drop ((off - i) * ei.size) := by rw [List.drop_drop, m1]
      rw [this, List.take_append_drop, List.take_append_drop]
    rw [e1] at q7
    obtain ⟨v1, vr, G1, Gr, hv1, hG1, p1, q7⟩ := OwL.split q7
    obtain ⟨v2, vr2, G2, Gr2, hv2, hG2, p2, q7⟩ := OwL.split q7
    obtain ⟨v3, v4, G3, G4, hv3, hG3, p3, p4⟩ := OwL.split q7
    have l1 := OwL.length p1
    have l2 := OwL.length p2
    have l3 := OwL.length p3
    rw [List.length_take] at l1
    rw [List.length_take, List.length_drop] at l2 l3
    have hmi : i * ei.size ≤ n * ei.size := Nat.mul_le_mul_right _ (by omega)
    have s1 : v1.length = i * ei.size := by omega
    have s2 : v2.length = (off - i) * ei.size := by omega
    have s3 : v3.length = k * ei.size := by omega
    have hcur : cur.toList.take (n * ei.size) = v1 ++ (v2 ++ (v3 ++ v4)) := by rw [hv1, hv2, hv3]
    have hcurL : ∀ j y, (cur.toList.take (n * ei.size))[j]? = some y → cur[j]? = some y := fun j y hj => by
      rw [List.getElem?_take] at hj
      split at hj
      · rw [← Array.getElem?_toList]; exact hj
      · cases hj
    have h1 : HM c hd (upd fp nm []) (upd m nm (some (.gone g))) w (((g0 :: G1) ++ G3) ++ X) := by
      rw [q8, hG1, hG2, hG3] at o1
      have := HM.pocket o1 (X' := (G2 ++ G4) ++ (((g0 :: G1) ++ G3) ++ X)) (by
        simp only [List.cons_append, List.append_assoc]
        have a1 : (G2 ++ (G4 ++ g0 :: (G1 ++ (G3 ++ X)))).Perm (g0 :: (G2 ++ (G4 ++ (G1 ++ (G3 ++ X))))) := by
          have := List.perm_middle (a := g0) (l₁ := G2 ++ G4) (l₂ := G1 ++ (G3 ++ X))
          simpa only [List.append_assoc] using this
        refine a1.trans (List.Perm.cons _ ?_)
        have a2 : (G2 ++ (G4 ++ (G1 ++ (G3 ++ X)))).Perm (G1 ++ (G2 ++ (G4 ++ (G3 ++ X)))) := by
          have := (List.perm_append_comm (l₁ := G2 ++ G4) (l₂ := G1)).append_right (G3 ++ X)
          simpa only [List.append_assoc] using this
        refine a2.trans (List.Perm.append_left _ (List.Perm.append_left _ ?_))
        have a3 := (List.perm_append_comm (l₁ := G4) (l₂ := G3)).append_right X
        simpa only [List.append_assoc] using a3)
      exact this.leave
    refine fin h1 ?_ (news := v3) ?_ p3 (hc2 (fun t ht => List.mem_of_mem_drop (List.mem_of_mem_take ht)))
    · simp only [Ow]
      refine ⟨⟨by rw [List.length_take]; omega, hc2 (fun t ht => List.mem_of_mem_take ht)⟩, .inr ⟨g0, cap, cur, e', fr, G1, rfl, q2, q3, q4, by omega, q6, ?_, rfl⟩⟩
      have : cur.toList.take (i * ei.size) = v1 := by
        have : cur.toList.take (i * ei.size) = (cur.toList.take (n * ei.size)).take (i * ei.size) := by rw [List.take_take, Nat.min_eq_left hmi]
        rw [this, hcur, List.take_left' s1]
      rw [this]; exact p1
    · have hone : ∀ z, z ∈ v3 → z.oneCell' = true := fun z hz => by
        obtain ⟨j, hj⟩ := List.mem_iff_getElem?.1 hz
        have hjl := (List.getElem?_eq_some_iff.1 hj).1
        rw [OwL.length p3] at hjl
        obtain ⟨z', G', e1, e2, _⟩ := OwL.get p3 (List.getElem?_eq_getElem hjl)
        rw [hj] at e1; injection e1 with e1; subst e1
        exact Ow.oneCell (hc1 _ (List.mem_of_mem_drop (List.mem_of_mem_take (List.getElem_mem _)))) H.tg1 e2
      rcases Nat.eq_zero_or_pos k with h0 | h0
      · subst h0
        have : v3 = [] := List.length_eq_zero_iff.1 (by rw [s3, Nat.zero_mul])
        subst this
        cases A' with
        | none => exact Src.ofNil w hu C'
        | some a => exact Src.ofSlice w hu a 0 C' [] (by simp) (fun j v hj => by simp at hj) (fun _ h => by cases h)
      · obtain ⟨b, N', C2, e5, rfl⟩ := y4 h0
        rw [q1] at e5; injection e5 with e5; injection e5 with e5; injection e5 with e5; subst e5
        refine Src.ofSlice w hu _ k C' v3 s3 (fun j y hj => ?_) hone
        rw [cell_eq, add_off, cellAt_of q2]
        refine hcurL _ _ ?_
        rw [hcur, List.getElem?_append_right (by omega), List.getElem?_append_right (by omega)]
        rw [show off * ei.size + j - v1.length - v2.length = j by omega, List.getElem?_append_left (List.getElem?_eq_some_iff.1 hj).1]
        exact hj
theorem append_ok (hτ : TTok P τ) (H : HM c hd fp m w X) {t t2 ty D : Nat} {x y : AV} {xv yv : Value} (hx : AVok c hd m w.heap x xv) (hy : AVok c hd m w.heap y yv) (hE : Ex P (appendA τ t t2 x y D) u m v m' A W) :
    ∃ vv w' hd' fp', (Builtin.append_ #[t, t2] ty #[xv, yv]).run P w = .ok vv w' ∧ AVok c hd' m' w'.heap v vv ∧ HM c hd' fp' m' w' X ∧ Evo hd m w.heap hd' m' w'.heap := by
  unfold appendA at hE
  split at hE
  · simp only [Ex] at hE
  · rename_i ei hei
    obtain ⟨e, hu, he⟩ := elemOf_ok hτ hei
    split at hE
    · rename_i hs0
      split at hE
      · rename_i nm g i off k hcu
        obtain ⟨rfl, rfl⟩ := cutsOf_eq hcu
        split at hE
        · rename_i hio
          obtain ⟨hio, rfl⟩ := hio
          obtain ⟨vv, n, cs, B0, rfl, hm, hE⟩ := getRow_ok hE
          simp only [Ex] at hE
          obtain ⟨⟨b1, b2⟩, _, _, _, _, rfl, rfl, _, _⟩ := hE
          exact append_cut H hu he hs0 hm hx hy hio b1 b2
        · simp only [Ex] at hE
      rename_i hcn
      clear hcn
      obtain ⟨k, us, m1, fp1, F, A1, W1, news, r1, r2, r3, r4, r5, r6⟩ := rowOf_ok hτ H hs0 hy hE
      have hx1 := AVok.evo r6 x hx
      split at r1
      · rename_i nm g
        obtain ⟨vv, n, cs, B0, rfl, hm, r1⟩ := getRow_ok r1
        simp only [Ex] at r1
        obtain ⟨⟨b1, b2⟩, _, _, _, _, rfl, rfl, _, _⟩ := r1
        have hv := own_eq hx1 hm
        subst hv
        have hb := r2.blk nm _ hm
        simp only [BlkOk] at hb
        obtain ⟨o1, o2⟩ := r2.out hm (g := g) rfl
        have o1' : HM c hd (upd fp1 nm []) (upd m1 nm (some (.gone g))) w ((fp1 nm ++ F) ++ X) := by rw [List.append_assoc]; exact o1
        obtain ⟨vv, w', hrun, hG⟩ := append_core (ty := ty) hu he hs0 hb r3 r4 r5 (List.nodup_append.1 o1'.xnd).1 b1 b2
        obtain ⟨hd', fp', q1, q2, q3⟩ := grown_put (nm := nm) (g := g + 1) o1' (fun b0 h0 => by rw [upd_same] at h0; injection h0 with h0; subst h0; exact Nat.lt_succ_self _) hG
        have huu : upd (upd m1 nm (some (.gone g))) nm (some (.row (g + 1) 0 ei.size (n + k) (cs ++ us))) = upd m1 nm (some (.row (g + 1) 0 ei.size (n + k) (cs ++ us))) := by funext j; unfold upd; split <;> rfl
        rw [huu] at q1 q2 q3
        exact ⟨vv, w', hd', fp', hrun, q1, q2, r6.trans (o2.trans q3)⟩
      · simp only [Ex] at r1
        obtain ⟨⟨b1, b2⟩, r1⟩ := r1
        obtain ⟨g, B, V, r1, hg⟩ := mk_ok r1
        simp only [Ex] at r1
        obtain ⟨rfl, rfl, _, _⟩ := r1
        simp only [AVok] at hx1
        obtain ⟨B, rfl⟩ := hx1
        have hnil : Ow w.heap c.tags (.row ei.size 0 []) (.slice B 0 0) [] := by simp [Ow, cells1]
        obtain ⟨vv, w', hrun, hG⟩ := append_core (ty := ty) (n := 0) (cs := []) (F0 := []) hu he hs0 hnil r3 r4 r5 (by simpa using (List.nodup_append.1 r2.xnd).1) (by simpa using b1) (by simpa using b2)
        rw [Nat.zero_add, List.nil_append] at hG
        obtain ⟨hd', fp', q1, q2, q3⟩ := grown_put (Y := []) (F := F) (nm := D) (g := g) (by simpa using r2) hg hG
        exact ⟨vv, w', hd', fp', hrun, q1, q2, r6.trans q3⟩
      · rename_i nm g i j vv
        obtain ⟨n, cs, m2, fp2, F2, A2, W2, s1, s2, s3, s4, _⟩ := takeInn_ok r2 hx1 r1
        simp only [Ex] at s1
        obtain ⟨⟨b1, b2⟩, s1⟩ := s1
        obtain ⟨g2, B, V, s1, hg⟩ := mk_ok s1
        simp only [Ex] at s1
        obtain ⟨rfl, rfl, _, _⟩ := s1
        have s2' : HM c hd fp2 m2 w ((F2 ++ F) ++ X) := by rw [List.append_assoc]; exact s2
        obtain ⟨vv, w', hrun, hG⟩ := append_core (ty := ty) hu he hs0 s3 r3 r4 r5 (List.nodup_append.1 s2'.xnd).1 b1 b2
        obtain ⟨hd', fp', q1, q2, q3⟩ := grown_put (nm := D) (g := g2) s2' hg hG
        exact ⟨vv, w', hd', fp', hrun, q1, q2, r6.trans (s4.trans q3)⟩
      · simp only [Ex] at r1
    · simp only [Ex] at hE
end
end Go.AM
