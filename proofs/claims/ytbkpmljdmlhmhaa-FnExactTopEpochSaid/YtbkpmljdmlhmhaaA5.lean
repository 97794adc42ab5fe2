/- AN ABSTRACT MACHINE, 6: values go into trees of their own; loads, stores. No condition of its own. -/
import Derived.Test.YtbkpmljdmlhmhaaA4
set_option linter.unusedVariables false
set_option linter.unusedSimpArgs false
namespace Go.AM
open Go AM

/-! ### one tree of many is exchanged -/
theorem OwL.set {h tg} : ∀ {ts : List Tr} {vs F} {j : Nat} {t}, OwL h tg ts vs F → ts[j]? = some t → ∃ v G F', vs[j]? = some v ∧ Ow h tg t v G ∧ F.Perm (G ++ F') ∧
    ∀ t' v' G', Ow h tg t' v' G' → ∃ F2, OwL h tg (ts.set j t') (vs.set j v') F2 ∧ F2.Perm (G' ++ F')
  | [], vs, F, j, t, H, hj => by simp at hj
  | t0 :: ts, vs, F, j, t, H, hj => by
    simp only [OwL] at H
    obtain ⟨v, us, F1, F2, rfl, h1, h2, rfl⟩ := H
    cases j with
    | zero =>
      simp at hj; subst hj
      refine ⟨v, F1, F2, rfl, h1, List.Perm.refl _, fun t' v' G' h' => ⟨G' ++ F2, ?_, List.Perm.refl _⟩⟩
      simp only [List.set_cons_zero, OwL]
      exact ⟨v', us, G', F2, rfl, h', h2, rfl⟩
    | succ j =>
      simp at hj
      obtain ⟨u, G, F', e1, e2, e3, e4⟩ := OwL.set h2 hj
      refine ⟨u, G, F1 ++ F', by simpa using e1, e2, ?_, fun t' v' G' h' => ?_⟩
      · exact (e3.append_left F1).trans (by rw [← List.append_assoc, ← List.append_assoc]; exact List.perm_append_comm.append_right F')
      · obtain ⟨F3, k1, k2⟩ := e4 t' v' G' h'
        refine ⟨F1 ++ F3, ?_, (k2.append_left F1).trans (by rw [← List.append_assoc, ← List.append_assoc]; exact List.perm_append_comm.append_right F')⟩
        simp only [List.set_cons_succ, OwL]
        exact ⟨v, us.set j v', F1, F3, rfl, h1, k1, rfl⟩
theorem el_get (cs : List Tr) (sz i j : Nat) (hj : j < sz) : (el cs sz i)[j]? = cs[i * sz + j]? := by
  unfold el
  rw [List.getElem?_take, if_pos hj, List.getElem?_drop]
theorem el_get_lt {cs : List Tr} {sz i j : Nat} {t : Tr} (h : (el cs sz i)[j]? = some t) : j < sz := by
  unfold el at h
  rw [List.getElem?_take] at h
  split at h
  · assumption
  · cases h
theorem upEl_set (cs : List Tr) (sz i j : Nat) (t : Tr) (hj : j < sz) (hl : (i + 1) * sz ≤ cs.length) : upEl cs sz i ((el cs sz i).set j t) = cs.set (i * sz + j) t := by
  have e1 : (i + 1) * sz = i * sz + sz := Nat.succ_mul _ _
  unfold upEl el
  apply List.ext_getElem?
  intro k
  have l1 : (cs.take (i * sz)).length = i * sz := by rw [List.length_take]; omega
  have l2 : (((cs.drop (i * sz)).take sz).set j t).length = sz := by rw [List.length_set, List.length_take, List.length_drop]; omega
  rw [List.append_assoc]
  by_cases h1 : k < i * sz
  · rw [List.getElem?_append_left (by omega), List.getElem?_take, if_pos h1, List.getElem?_set, if_neg (by omega)]
  · rw [List.getElem?_append_right (by omega), l1]
    by_cases h2 : k < i * sz + sz
    · rw [List.getElem?_append_left (by omega), List.getElem?_set, List.getElem?_set, List.length_take, List.length_drop]
      by_cases h3 : k = i * sz + j
      · subst h3
        rw [if_pos (by omega), if_pos (by omega), if_pos rfl, if_pos (by omega)]
      · rw [if_neg (by omega), if_neg (by omega), List.getElem?_take, if_pos (by omega), List.getElem?_drop, show i * sz + (k - i * sz) = k by omega]
    · rw [List.getElem?_append_right (by omega), l2, List.getElem?_drop, List.getElem?_set, if_neg (by omega), show i * sz + sz + (k - i * sz - sz) = k by omega]

section
variable {P : Program} {c : Ctx} {hd : Nat → Value} {fp : Nat → List Nat} {m m' : Mem} {w : World} {X : List Nat} {α : Type} {u : Nat → Bool} {y : α} {A W : List Nat}

/-- a row that isn't empty has a block -/
theorem row_block {h : Heap} {tg : List Value} {sz n : Nat} {cs : List Tr} {v : Value} {F : List Nat} (H : Ow h tg (.row sz n cs) v F) (hn : 0 < n) :
    ∃ g cap cur e fr G, v = .slice (some ⟨g, 0, none⟩) n cap ∧ h[g]? = some (.cells cur e fr) ∧ unfr fr cur.size ∧ cur.size = cap * sz ∧ n ≤ cap ∧ cap ≤ maxL ∧ OwL h tg cs (cur.toList.take (n * sz)) G ∧ F = g :: G := by
  simp only [Ow] at H
  rcases H.2 with ⟨A, _, h0, _⟩ | H
  · omega
  · exact H

theorem getInn_ok {nm g i j vv sz : Nat} {v : Value} {k : Nat → Nat → Nat → List Tr → List Tr → Nat → List Tr → AM α} (H : HM c hd fp m w X) (hx : AVok c hd m w.heap (.inn nm g i j vv) v) (hE : Ex P (getInn nm g i j vv sz k) u m y m' A W) :
    ∃ sz' n cs n2 cs2 B, A = nm :: B ∧ m nm = some (.row g vv sz' n cs) ∧ i < n ∧ j < sz' ∧ (el cs sz' i)[j]? = some (.row sz n2 cs2) ∧ Ex P (k sz' n vv cs (el cs sz' i) n2 cs2) u m y m' B W ∧
      ∃ g0 cap cur e fr G, hd nm = .slice (some ⟨g0, 0, none⟩) n cap ∧ w.heap[g0]? = some (.cells cur e fr) ∧ unfr fr cur.size ∧ cur.size = cap * sz' ∧ n ≤ cap ∧ cap ≤ maxL ∧ OwL w.heap c.tags cs (cur.toList.take (n * sz')) G ∧ fp nm = g0 :: G ∧
        cs.length = n * sz' ∧ cells1 cs ∧ (cur.toList.take (n * sz'))[i * sz' + j]? = some v := by
  simp only [getInn, Ex] at hE
  obtain ⟨B, rfl, hE⟩ := hE
  cases hm : m nm with
  | none => rw [hm] at hE; simp only [Ex] at hE
  | some b =>
    rw [hm] at hE
    cases b with
    | box _ _ _ => simp only [Ex] at hE
    | gone _ => simp only [Ex] at hE
    | lent _ _ _ _ => simp only [Ex] at hE
    | lentB _ _ => simp only [Ex] at hE
    | row g' v' sz' n cs =>
      simp only at hE
      split at hE
      · rename_i hg
        obtain ⟨rfl, rfl⟩ := hg
        simp only [Ex] at hE
        cases hL : (el cs sz' i)[j]? with
        | none => rw [hL] at hE; simp only [Ex] at hE
        | some t =>
          rw [hL] at hE
          cases t <;> simp only [Ex] at hE
          case row s2 n2 cs2 =>
            split at hE
            · rename_i hs
              subst hs
              simp only [AVok] at hx
              obtain ⟨b, hb, hg, hk⟩ := hx.2
              rw [hm] at hb; injection hb with hb; subst hb
              obtain ⟨_, h3⟩ := hk rfl
              obtain ⟨h4, h5, b, N, C, h6, h7⟩ := h3 rfl
              have hblk := H.blk nm _ hm
              simp only [BlkOk] at hblk
              obtain ⟨g0, cap, cur, e, fr, G, k1, k2, k3, k4, k5, k6, k7, k8⟩ := row_block hblk (by omega)
              have hl : cs.length = n * sz' ∧ cells1 cs := by simp only [Ow] at hblk; exact hblk.1
              refine ⟨sz', n, cs, n2, cs2, B, rfl, rfl, h4, h5, hL, hE, g0, cap, cur, e, fr, G, k1, k2, k3, k4, k5, k6, k7, k8, hl.1, hl.2, ?_⟩
              have : b = g0 := by rw [k1] at h6; injection h6 with h6; injection h6 with h6; injection h6 with h6; exact h6.symm
              subst this
              rw [cellAt_of k2] at h7
              rw [List.getElem?_take, if_pos (mul_add_lt h4 h5), Array.getElem?_toList]
              exact h7
            · simp only [Ex] at hE
      · simp only [Ex] at hE

theorem takeInn_ok {nm g i j vv sz : Nat} {v : Value} {k : Nat → List Tr → AM α} (H : HM c hd fp m w X) (hx : AVok c hd m w.heap (.inn nm g i j vv) v) (hE : Ex P (takeInn nm g i j vv sz k) u m y m' A W) :
    ∃ n cs m1 fp1 F A1 W1, Ex P (k n cs) u m1 y m' A1 W1 ∧ HM c hd fp1 m1 w (F ++ X) ∧ Ow w.heap c.tags (.row sz n cs) v F ∧ Evo hd m w.heap hd m1 w.heap ∧ ∃ sz' N CS, m1 = upd m nm (some (.row g vv sz' N CS)) ∧ i < N ∧ j < sz' ∧ (el CS sz' i)[j]? = some .hole := by
  obtain ⟨sz', N, cs, n2, cs2, B, rfl, hm, hi, hj, hL, hE, g0, cap, cur, e, fr, G, k1, k2, k3, k4, k5, k6, k7, k8, k9, k10, k11⟩ := getInn_ok H hx hE
  simp only [Ex] at hE
  obtain ⟨B2, V, _, _, hE⟩ := hE
  have hle : (i + 1) * sz' ≤ cs.length := by rw [k9]; exact Nat.mul_le_mul_right _ hi
  rw [upEl_set cs sz' i j .hole hj hle] at hE
  have hL2 : cs[i * sz' + j]? = some (.row sz n2 cs2) := by rw [← el_get cs sz' i j hj]; exact hL
  obtain ⟨v0, G1, G2, q1, q2, q3, q4⟩ := OwL.set k7 hL2
  have hv : v0 = v := by rw [k11] at q1; injection q1 with q1; exact q1.symm
  subst hv
  have h1c : v0.oneCell' = true := by
    simp only [Ow] at q2
    rcases q2.2 with ⟨A, rfl, _⟩ | ⟨g, cap, cur, e, fr, G, rfl, _⟩ <;> rfl
  obtain ⟨F2, r1, r2⟩ := q4 .hole v0 [] (by simp [Ow, h1c])
  have hset : (cur.toList.take (N * sz')).set (i * sz' + j) v0 = cur.toList.take (N * sz') := by
    apply List.ext_getElem?
    intro x
    rw [List.getElem?_set]
    split
    · subst_vars
      split
      · exact k11.symm
      · rename_i hh
        rw [List.getElem?_eq_none (Nat.le_of_not_lt hh)] at k11; cases k11
    · rfl
  rw [hset] at r1
  have hnd := H.nd nm
  rw [k8] at hnd
  have hGp : G.Perm (G1 ++ F2) := q3.trans ((by simpa using r2.symm : G2.Perm F2).append_left G1)
  have hh : upd hd nm (hd nm) = hd := by funext x; unfold upd; split <;> simp_all
  have hmem : ∀ x, x ∈ G ↔ x ∈ G1 ∨ x ∈ F2 := fun x => by rw [hGp.mem_iff, List.mem_append]
  have hG1 : ∀ x, x ∈ G1 → x ∈ fp nm := fun x hx => by rw [k8]; exact List.mem_cons_of_mem _ ((hmem x).2 (.inl hx))
  have st := HM.step (Y := []) (X := X) (w' := w) (by simpa using H) nm (blk := .row g vv sz' N (cs.set (i * sz' + j) .hole)) (v := hd nm) (F := g0 :: F2) (Y' := G1) rfl rfl rfl (Nat.le_refl _) (fun _ _ _ _ => rfl)
    (by
      rw [List.cons_append]
      have h2 := (hGp.trans List.perm_append_comm).nodup_iff.1 (List.nodup_cons.1 hnd).2
      refine List.nodup_cons.2 ⟨fun hx => (List.nodup_cons.1 hnd).1 ?_, h2⟩
      rw [hmem]
      rcases List.mem_append.1 hx with h | h
      · exact .inr h
      · exact .inl h)
    (fun x hx => .inl (by
      rw [k8]
      rw [List.cons_append] at hx
      rcases List.mem_cons.1 hx with rfl | hx
      · simp
      · refine List.mem_cons_of_mem _ ((hmem x).2 ?_)
        rcases List.mem_append.1 hx with h | h
        · exact .inr h
        · exact .inl h))
    (fun x hx => H.lt (hG1 x hx))
    (fun b0 h0 => by
      rw [hm] at h0; injection h0 with h0; subst h0
      exact ⟨Nat.le_refl _, fun _ => ⟨rfl, rfl, rfl, Nat.le_refl _, fun _ _ _ _ _ _ _ => rfl⟩⟩)
    (fun E => by
      simp only [BlkOk, upd_same, Ow]
      refine ⟨⟨by rw [List.length_set]; exact k9, fun t ht => ?_⟩, .inr ⟨g0, cap, cur, e, fr, F2, k1, k2, k3, k4, k5, k6, r1, rfl⟩⟩
      rcases List.mem_or_eq_of_mem_set ht with h | h
      · exact k10 t h
      · subst h; rfl)
  rw [hh] at st
  refine ⟨n2, cs2, _, _, G1, _, _, hE, st.1, q2, st.2, sz', N, _, rfl, hi, hj, ?_⟩
  rw [el_get _ _ _ _ hj, List.getElem?_set, if_pos rfl, if_pos (by rw [k9]; exact mul_add_lt hi hj)]

theorem getRow_ok {nm g sz : Nat} {k : Nat → Nat → List Tr → AM α} (hE : Ex P (getRow nm g sz k) u m y m' A W) : ∃ v n cs B, A = nm :: B ∧ m nm = some (.row g v sz n cs) ∧ Ex P (k v n cs) u m y m' B W := by
  simp only [getRow, Ex] at hE
  obtain ⟨B, rfl, hE⟩ := hE
  cases hm : m nm with
  | none => rw [hm] at hE; simp only [Ex] at hE
  | some b =>
    rw [hm] at hE
    cases b with
    | box _ _ _ => simp only [Ex] at hE
    | gone _ => simp only [Ex] at hE
    | lent _ _ _ _ => simp only [Ex] at hE
    | lentB _ _ => simp only [Ex] at hE
    | row g' v' sz' n cs =>
      simp only at hE
      split at hE
      · rename_i hg
        obtain ⟨rfl, rfl⟩ := hg
        exact ⟨v', n, cs, B, rfl, rfl, hE⟩
      · simp only [Ex] at hE
theorem getBox_ok {nm g : Nat} {k : Nat → List AV → AM α} (hE : Ex P (getBox nm g k) u m y m' A W) : ∃ t cs B, A = nm :: B ∧ m nm = some (.box g t cs) ∧ Ex P (k t cs) u m y m' B W := by
  simp only [getBox, Ex] at hE
  obtain ⟨B, rfl, hE⟩ := hE
  cases hm : m nm with
  | none => rw [hm] at hE; simp only [Ex] at hE
  | some b =>
    rw [hm] at hE
    cases b with
    | row _ _ _ _ _ => simp only [Ex] at hE
    | gone _ => simp only [Ex] at hE
    | lent _ _ _ _ => simp only [Ex] at hE
    | lentB _ _ => simp only [Ex] at hE
    | box g' t cs =>
      simp only at hE
      split at hE
      · rename_i hg
        subst hg
        exact ⟨t, cs, B, rfl, rfl, hE⟩
      · simp only [Ex] at hE
theorem mk_ok {nm : Nat} {b : Nat → Blk} {k : Nat → AM α} (hE : Ex P (mk nm b k) u m y m' A W) : ∃ g B V, Ex P (k g) u (upd m nm (some (b g))) y m' B V ∧ ∀ b0, m nm = some b0 → b0.gen < g := by
  simp only [mk, Ex] at hE
  obtain ⟨B, rfl, hE⟩ := hE
  cases hm : m nm with
  | none =>
    rw [hm] at hE; simp only [Ex] at hE
    obtain ⟨B2, V, _, _, hE⟩ := hE
    exact ⟨0, B2, V, hE, fun b0 h0 => by cases h0⟩
  | some b =>
    rw [hm] at hE; simp only [Ex] at hE
    obtain ⟨B2, V, _, _, hE⟩ := hE
    exact ⟨_, B2, V, hE, fun b0 h0 => by injection h0 with h0; subst h0; exact Nat.lt_succ_self _⟩

theorem own_eq {nm g : Nat} {v : Value} (hx : AVok c hd m w.heap (.own nm g) v) {vv sz n : Nat} {cs : List Tr} (hm : m nm = some (.row g vv sz n cs)) : v = hd nm := by
  simp only [AVok] at hx
  obtain ⟨b, hb, hg, hk⟩ := hx.2
  rw [hm] at hb; injection hb with hb; subst hb
  exact hk rfl

theorem toT_ok {ck : CK} {x : AV} {v : Value} {k : Tr → AM α} (H : HM c hd fp m w X) (hx : AVok c hd m w.heap x v) (hE : Ex P (toT ck x k) u m y m' A W) :
    ∃ t m1 fp1 F A1 W1, Ex P (k t) u m1 y m' A1 W1 ∧ HM c hd fp1 m1 w (F ++ X) ∧ Ow w.heap c.tags t v F ∧ t.cellB = true ∧ Evo hd m w.heap hd m1 w.heap := by
  unfold toT at hE
  split at hE
  · exact ⟨_, m, fp, [], A, W, hE, H, by simp only [AVok] at hx; simp [Ow, hx], rfl, Evo.refl _ _ _⟩
  · exact ⟨_, m, fp, [], A, W, hE, H, by simp only [AVok] at hx; simp [Ow, hx], rfl, Evo.refl _ _ _⟩
  · exact ⟨_, m, fp, [], A, W, hE, H, by simp only [AVok] at hx; simp [Ow, hx], rfl, Evo.refl _ _ _⟩
  · refine ⟨_, m, fp, [], A, W, hE, H, ?_, rfl, Evo.refl _ _ _⟩
    simp only [AVok] at hx
    obtain ⟨B, rfl⟩ := hx
    simp [Ow, cells1]
  · rename_i sz nm g
    obtain ⟨vv, n, cs, B, rfl, hm, hE⟩ := getRow_ok hE
    simp only [Ex] at hE
    obtain ⟨B2, V, _, _, hE⟩ := hE
    have hv := own_eq hx hm
    subst hv
    have hb := H.blk nm _ hm
    obtain ⟨h1, h2⟩ := H.out hm (g := g) rfl
    exact ⟨_, _, _, fp nm, _, _, hE, h1, hb, rfl, h2⟩
  · refine ⟨_, m, fp, [], A, W, hE, H, ?_, rfl, Evo.refl _ _ _⟩
    simp only [AVok] at hx
    simp [Ow, hx.2 _ rfl]
  · obtain ⟨n, cs, m1, fp1, F, A1, W1, h1, h2, h3, h4, _⟩ := takeInn_ok H hx hE
    exact ⟨_, m1, fp1, F, A1, W1, h1, h2, h3, rfl, h4⟩
  · simp only [Ex] at hE
end

theorem toTL_ok {P : Program} {c : Ctx} {hd : Nat → Value} {w : World} {α : Type} {u : Nat → Bool} {y : α} {m' : Mem} : ∀ (ck : List CK) (xs : List AV) {fp : Nat → List Nat} {m : Mem} {X : List Nat} {A W : List Nat} {vs : List Value} {k : List Tr → AM α}, HM c hd fp m w X → AVokL c hd m w.heap xs vs → Ex P (toTL ck xs k) u m y m' A W →
    ∃ ts m1 fp1 F A1 W1, Ex P (k ts) u m1 y m' A1 W1 ∧ HM c hd fp1 m1 w (F ++ X) ∧ OwL w.heap c.tags ts vs F ∧ cells1 ts ∧ Evo hd m w.heap hd m1 w.heap ∧ ts.length = ck.length
  | [], [], fp, m, X, A, W, vs, k, H, hx, hE => by
    simp only [toTL] at hE
    simp only [AVokL] at hx
    subst hx
    exact ⟨[], m, fp, [], A, W, hE, H, by simp [OwL], by simp [cells1], Evo.refl _ _ _, rfl⟩
  | ck :: cks, x :: xs, fp, m, X, A, W, vs, k, H, hx, hE => by
    simp only [toTL] at hE
    simp only [AVokL] at hx
    obtain ⟨v, us, rfl, h1, h2⟩ := hx
    obtain ⟨t, m1, fp1, F1, A1, W1, e1, e2, e3, e4, e5⟩ := toT_ok H h1 hE
    obtain ⟨ts, m2, fp2, F2, A2, W2, q1, q2, q3, q4, q5, q6⟩ := toTL_ok cks xs e2 (AVokL.evo e5 xs h2) e1
    refine ⟨t :: ts, m2, fp2, F1 ++ F2, A2, W2, q1, q2.pocket ?_, ?_, ?_, e5.trans q5, by simp [q6]⟩
    · rw [← List.append_assoc]; exact List.perm_append_comm.append_right X
    · simp only [OwL]; exact ⟨v, us, F1, F2, rfl, e3, q3, rfl⟩
    · intro t' ht
      rcases List.mem_cons.1 ht with rfl | ht
      · exact e4
      · exact q4 t' ht
  | [], x :: xs, fp, m, X, A, W, vs, k, H, hx, hE => by simp only [toTL, Ex] at hE
  | ck :: cks, [], fp, m, X, A, W, vs, k, H, hx, hE => by simp only [toTL, Ex] at hE
end Go.AM
