import Derived.Test.YtbkpmljdmlhmhaaFA
import Derived.Test.YtbkpmljdmlhmhaaDM
namespace Go.Proofs.Ytbkpmljdmlhmhaa
open Go Go.AM Ty
set_option maxRecDepth 100000
set_option maxHeartbeats 4000000
set_option linter.unusedVariables false
set_option linter.unusedSimpArgs false
attribute [local irreducible] aw aops aopsD wpo wpoL condW guardW thenQ blockQ finQ Le AGood
theorem rq_F1 {p : Prop} (h : p := by first | assumption | exact uT_plain _ | exact sT_plain _ | exact rq_) : p := h
theorem lk_F1 {p : Prop} (h : p := by first | exact bT_app _ _ | exact uT_el side_ | exact lk_) : p := h
theorem ok_F1 {p : Prop} (h : p := by first | exact ⟨⟨⟨sT_plain _, sT_plain _, trivial, trivial, uT_plain _, trivial⟩, by simp [cells1, Tr.cellB]⟩, trivial, trivial⟩ | exact ⟨⟨sT_plain _, sT_plain _, trivial, trivial, uT_plain _, trivial⟩, by simp [cells1, Tr.cellB]⟩ | (simp [Tr.okR, Tr.okRL, Tr.plainL, Tr.plain, cells1, Tr.cellB, PB.okRL, PB.okR, bT_plain, sT_plain, oT_plain, nT_plain, uT_plain, sT_plain]; done) | exact ok_) : p := h
/-- an upload has no more than it wants, and all of it where it is done -/
def UpW (x : Upp) : Prop := (x.d.length : Int) ≤ x.w ∧ (x.f = true → (x.d.length : Int) = x.w)
theorem oneM_w {l l' : List Upp} {r : Rc} (h : oneM l r = some l') (hr : r.k = 1 → 0 ≤ r.n) (hl : ∀ x ∈ l, UpW x) : ∀ x ∈ l', UpW x := by
  unfold oneM at h
  split at h
  · rename_i hk
    split at h
    · injection h with h
      subst h
      intro x hx
      unfold makeM at hx
      rcases List.mem_append.1 hx with h | h
      · exact hl x (List.mem_of_mem_take h)
      · rcases List.mem_cons.1 h with h | h
        · subst h
          exact ⟨hr hk, fun h => by cases h⟩
        · exact hl x (List.mem_of_mem_drop h)
    · cases h
  · split at h
    · cases h
    · rename_i i _
      split at h
      · split at h
        · cases h
        · rename_i hc
          injection h with h
          subst h
          simp only [Bool.or_eq_true, decide_eq_true_eq, not_or] at hc
          obtain ⟨⟨h1, h2⟩, h3⟩ := hc
          intro x hx
          rcases List.mem_or_eq_of_mem_set hx with h | h
          · exact hl x h
          · subst h
            refine ⟨?_, fun h => absurd h h1⟩
            simp only [List.length_append]
            omega
      · split at h
        · split at h
          · cases h
          · rename_i hc
            injection h with h
            subst h
            simp only [Bool.or_eq_true, decide_eq_true_eq, not_or, Decidable.not_not] at hc
            intro x hx
            rcases List.mem_or_eq_of_mem_set hx with h | h
            · exact hl x h
            · subst h
              have h2 := hc.2
              exact ⟨by simp only; omega, fun _ => h2⟩
        · split at h
          · injection h with h
            subst h
            exact fun x hx => hl x (List.mem_of_mem_eraseIdx hx)
          · cases h
theorem foldM_w : ∀ (rs : List Rc) {l u : List Upp}, foldM l rs = some u → (∀ r ∈ rs, r.k = 1 → 0 ≤ r.n) → (∀ x ∈ l, UpW x) → ∀ x ∈ u, UpW x
  | [], l, u, h, _, hl => by
    unfold foldM at h
    injection h with h
    subst h
    exact hl
  | r :: rs, l, u, h, hr, hl => by
    unfold foldM at h
    split at h
    · cases h
    · rename_i l' he
      exact foldM_w rs h (fun x hx => hr x (by simp [hx])) (oneM_w he (hr r (by simp)) hl)
theorem scan_n {a : List ByteArray} : ∀ r ∈ scanM a, r.k = 1 → 0 ≤ r.n := fun r hr _ => (recOk_nat (scanM_ok hr)).2.2.2.1.1
theorem sameU_w {u v : Upp} (h : sameU u v = true) (hw : UpW u) : UpW v := by
  have hd := (sameU_eq h).2
  unfold sameU at h
  simp only [Bool.and_eq_true, beq_iff_eq] at h
  obtain ⟨⟨⟨_, h2⟩, h3⟩, _⟩ := h
  unfold UpW at *
  rw [hd, ← h2, ← h3]
  exact hw
theorem ok_w {s : St} (h : okM s = true) : ∀ x ∈ s.u, UpW x := by
  unfold okM at h
  simp only [Bool.and_eq_true, decide_eq_true_eq] at h
  obtain ⟨⟨h1, h2⟩, h3⟩ := h
  split at h3
  · cases h3
  · rename_i u hF
    have hw := foldM_w _ hF scan_n (fun x hx => by cases hx)
    unfold okTail at h3
    simp only [Bool.and_eq_true, decide_eq_true_eq] at h3
    obtain ⟨⟨⟨h4, h5⟩, _⟩, _⟩ := h3
    obtain ⟨hl, he⟩ := same_get h4
    intro x hx
    obtain ⟨j, hj, rfl⟩ := List.getElem_of_mem hx
    have := he j (by omega)
    rw [List.getD_eq_getElem?_getD, List.getD_eq_getElem?_getD, List.getElem?_eq_getElem hj, List.getElem?_eq_getElem (by omega : j < u.length)] at this
    exact sameU_w this (hw _ (List.getElem_mem _))
attribute [local irreducible] getRecM scanM foldM topM dOk okM putS oneM idOkM
/-- what holds of all stores that are drawn -/
structure StG (s : St) : Prop where
  a : s.a.length ≤ 200
  b : s.b.length ≤ 200
  az : ∀ x ∈ s.a, x.size ≤ 64
  bz : ∀ x ∈ s.b, x.size ≤ 64
  n : 0 ≤ s.n ∧ s.n ≤ 1000
  u : s.u.length ≤ 10
  d : ∀ x ∈ s.u, x.d.length ≤ 10000
theorem StG.sm {s : St} (g : StG s) : s.sm := by
  have h1 := g.a
  have h2 := g.b
  have h3 := g.u
  exact ⟨by omega, by omega, by omega, fun x hx => by have := g.d x hx; omega⟩
theorem g_write {s : St} {r : Rc} {l' : List Upp} {B : Nat} (g : StG s) (hn : s.n < s.a.length) (h1 : oneM s.u r = some l') (hB : ∀ x ∈ s.u, x.d.length ≤ B) (hb : B + r.d.length ≤ 10000) : StG ⟨s.a.set s.n.toNat (putS r), s.b, s.e, s.n + 1, l'⟩ := by
  have h2 := g.n
  have h3 := g.a
  refine ⟨by simpa using g.a, g.b, set_all g.az (putS_size r), g.bz, by simp only; omega, oneM_len h1 g.u, fun x hx => ?_⟩
  have := oneM_d h1 hB x hx
  omega
theorem recOk_of {e n k m : Int} {id : ByteArray} {d : List UInt8} (he : 0 ≤ e ∧ e ≤ 10000) (hn : 0 ≤ n ∧ n ≤ 199) (hi : idOkM id = true) (h : (k = 1 ∧ (0 ≤ m ∧ m ≤ 1000000000) ∧ d = []) ∨ (k = 2 ∧ (0 ≤ m ∧ m ≤ 1000000000) ∧ (1 ≤ d.length ∧ d.length ≤ 24)) ∨ (k = 3 ∧ m = 0 ∧ d = []) ∨ (k = 4 ∧ m = 0 ∧ d = [])) : recOkM ⟨e, n, k, id, m, d⟩ = true := by
  unfold recOkM
  rw [hi]
  rcases h with ⟨rfl, h1, rfl⟩ | ⟨rfl, h1, h2⟩ | ⟨rfl, rfl, rfl⟩ | ⟨rfl, rfl, rfl⟩
  all_goals (simp; omega)
theorem makeUpS (s : St) (g : StG s) (id : ByteArray) (hid : id.size ≤ 1048576) (want : Int) : ∃ s' k, StG s' ∧ AGood e.P 146 [stR s, .ro (.str id), .ro (.int .i64 want)] (.tup [stT s', .int .i64 k]) [keep5, .keep, .keep] := by
  have h := g.sm
  have hu := h.u
  have ha := h.a
  have c1 := copyStoreS s h
  have c2 := storeOkS s h
  have c3 := idOkS id (by omega)
  have c4 := l14At s.u rfl id (by omega)
  have c5 := inRangeS want 0 1000000
  cases hok : okM s with
  | false =>
    rw [hok] at c2
    refine ⟨s, 1, g, ?_⟩
    refine agood eok (fn := Try.f146) kr_ de_ rfl kr_ ok_F1 ok_F1 ?_
    repeat' (first | refine o_cons ?_ | refine w_ok rfl ?_ | refine w_call rfl (c1) ?_ | refine w_call rfl (c2) ?_ | refine o_nil ?_ | refine q_then ?_ | refine sq ?_ | refine aw_seq ?_ | refine aw_reg ?_ | refine w_pT rfl ka rfl ?_ | refine w_pF rfl ka rfl ?_ | refine o_y rfl ka ?_ | refine o_nT rfl ka ?_ | refine o_nF rfl ka ?_ | refine o_nU rfl ?_ | refine aw_cT rfl ka ?_ | refine aw_cF rfl ka ?_ | refine o_gT rfl (fun h => ?_) (fun h => ?_) | refine o_gF rfl (fun h => ?_) (fun h => ?_) | refine aw_cond rfl (fun h => ?_) (fun h => ?_) | refine aw_block ?_ | refine aw_skip ?_ | refine aw_ret ?_ | refine q_ret ?_ | refine q_blockN ?_ | refine q_blockR ?_ | refine aw_exit ?_ | refine q_exit ?_ | refine q_blockE ?_ | refine q_blockX de_ ?_ | refine fin_r rfl ?_ | (refine w_req rfl ?_ ?_; · exact rq_F1) | (refine w_lk rfl ?_; refine ⟨_, lk_F1, ?_⟩) | refine w_look (l' := _ :: _) rfl rfl ?_ | refine w_look (l' := []) rfl rfl ?_ | refine w_req rfl ?_ ?_ | refine w_pick rfl (fun b => ?_) | refine l_call rfl (c1) ?_ | refine l_call rfl (c2) ?_ | refine aw_drw kr_ ?_ | refine d_cons ?_ | refine l_ok rfl ?_ | refine d_nil kr_ ?_ | refine d_y rfl ka ?_ | refine d_nT rfl ka ?_ | refine d_nF rfl ka ?_ | refine d_nU rfl ?_ | refine l_pT rfl ka rfl ?_ | refine l_pF rfl ka rfl ?_ | refine d_gT rfl (fun h => ?_) (fun h => ?_) | refine d_gF rfl (fun h => ?_) (fun h => ?_) | (refine l_req rfl ?_ ?_; · exact rq_F1) | (refine l_lk rfl ?_; refine ⟨_, lk_F1, ?_⟩) | refine l_look (l' := _ :: _) rfl rfl ?_ | refine l_look (l' := []) rfl rfl ?_ | refine l_req rfl ?_ ?_)
    rfl
  | true =>
    have f := ok_fit hok
    obtain ⟨d1, d2, d3, d4⟩ := dOk_sz f.d
    have hn := f.n
    rw [hok] at c2
    cases hi : idOkM id with
    | false =>
      rw [hi] at c3
      refine ⟨s, 1, g, ?_⟩
      refine agood eok (fn := Try.f146) kr_ de_ rfl kr_ ok_F1 ok_F1 ?_
      repeat' (first | refine o_cons ?_ | refine w_ok rfl ?_ | refine w_call rfl (c1) ?_ | refine w_call rfl (c2) ?_ | refine w_call rfl (c3) ?_ | refine o_nil ?_ | refine q_then ?_ | refine sq ?_ | refine aw_seq ?_ | refine aw_reg ?_ | refine w_pT rfl ka rfl ?_ | refine w_pF rfl ka rfl ?_ | refine o_y rfl ka ?_ | refine o_nT rfl ka ?_ | refine o_nF rfl ka ?_ | refine o_nU rfl ?_ | refine aw_cT rfl ka ?_ | refine aw_cF rfl ka ?_ | refine o_gT rfl (fun h => ?_) (fun h => ?_) | refine o_gF rfl (fun h => ?_) (fun h => ?_) | refine aw_cond rfl (fun h => ?_) (fun h => ?_) | refine aw_block ?_ | refine aw_skip ?_ | refine aw_ret ?_ | refine q_ret ?_ | refine q_blockN ?_ | refine q_blockR ?_ | refine aw_exit ?_ | refine q_exit ?_ | refine q_blockE ?_ | refine q_blockX de_ ?_ | refine fin_r rfl ?_ | (refine w_req rfl ?_ ?_; · exact rq_F1) | (refine w_lk rfl ?_; refine ⟨_, lk_F1, ?_⟩) | refine w_look (l' := _ :: _) rfl rfl ?_ | refine w_look (l' := []) rfl rfl ?_ | refine w_req rfl ?_ ?_ | refine w_pick rfl (fun b => ?_) | refine l_call rfl (c1) ?_ | refine l_call rfl (c2) ?_ | refine l_call rfl (c3) ?_ | refine aw_drw kr_ ?_ | refine d_cons ?_ | refine l_ok rfl ?_ | refine d_nil kr_ ?_ | refine d_y rfl ka ?_ | refine d_nT rfl ka ?_ | refine d_nF rfl ka ?_ | refine d_nU rfl ?_ | refine l_pT rfl ka rfl ?_ | refine l_pF rfl ka rfl ?_ | refine d_gT rfl (fun h => ?_) (fun h => ?_) | refine d_gF rfl (fun h => ?_) (fun h => ?_) | (refine l_req rfl ?_ ?_; · exact rq_F1) | (refine l_lk rfl ?_; refine ⟨_, lk_F1, ?_⟩) | refine l_look (l' := _ :: _) rfl rfl ?_ | refine l_look (l' := []) rfl rfl ?_ | refine l_req rfl ?_ ?_)
      rfl
    | true =>
      rw [hi] at c3
      cases hw : (decide (0 ≤ want) && decide (want ≤ 1000000)) with
      | false =>
        rw [hw] at c5
        refine ⟨s, 1, g, ?_⟩
        refine agood eok (fn := Try.f146) kr_ de_ rfl kr_ ok_F1 ok_F1 ?_
        repeat' (first | refine o_cons ?_ | refine w_ok rfl ?_ | refine w_call rfl (c1) ?_ | refine w_call rfl (c2) ?_ | refine w_call rfl (c3) ?_ | refine w_call rfl (c5) ?_ | refine o_nil ?_ | refine q_then ?_ | refine sq ?_ | refine aw_seq ?_ | refine aw_reg ?_ | refine w_pT rfl ka rfl ?_ | refine w_pF rfl ka rfl ?_ | refine o_y rfl ka ?_ | refine o_nT rfl ka ?_ | refine o_nF rfl ka ?_ | refine o_nU rfl ?_ | refine aw_cT rfl ka ?_ | refine aw_cF rfl ka ?_ | refine o_gT rfl (fun h => ?_) (fun h => ?_) | refine o_gF rfl (fun h => ?_) (fun h => ?_) | refine aw_cond rfl (fun h => ?_) (fun h => ?_) | refine aw_block ?_ | refine aw_skip ?_ | refine aw_ret ?_ | refine q_ret ?_ | refine q_blockN ?_ | refine q_blockR ?_ | refine aw_exit ?_ | refine q_exit ?_ | refine q_blockE ?_ | refine q_blockX de_ ?_ | refine fin_r rfl ?_ | (refine w_req rfl ?_ ?_; · exact rq_F1) | (refine w_lk rfl ?_; refine ⟨_, lk_F1, ?_⟩) | refine w_look (l' := _ :: _) rfl rfl ?_ | refine w_look (l' := []) rfl rfl ?_ | refine w_req rfl ?_ ?_ | refine w_pick rfl (fun b => ?_) | refine l_call rfl (c1) ?_ | refine l_call rfl (c2) ?_ | refine l_call rfl (c3) ?_ | refine l_call rfl (c5) ?_ | refine aw_drw kr_ ?_ | refine d_cons ?_ | refine l_ok rfl ?_ | refine d_nil kr_ ?_ | refine d_y rfl ka ?_ | refine d_nT rfl ka ?_ | refine d_nF rfl ka ?_ | refine d_nU rfl ?_ | refine l_pT rfl ka rfl ?_ | refine l_pF rfl ka rfl ?_ | refine d_gT rfl (fun h => ?_) (fun h => ?_) | refine d_gF rfl (fun h => ?_) (fun h => ?_) | (refine l_req rfl ?_ ?_; · exact rq_F1) | (refine l_lk rfl ?_; refine ⟨_, lk_F1, ?_⟩) | refine l_look (l' := _ :: _) rfl rfl ?_ | refine l_look (l' := []) rfl rfl ?_ | refine l_req rfl ?_ ?_)
        rfl
      | true =>
        rw [hw] at c5
        have hww : 0 ≤ want ∧ want ≤ 1000000 := by simpa using hw
        cases hx : idxM s.u id with
        | some i =>
          rw [hx] at c4
          have c4 : AGood e.P 87 [.ro (.row 4 s.u.length (uT s.u)), .ro (.str id)] (.int .i64 (i : Int)) [.keep, .keep] := c4
          have k0 : decide ((i : Int) ≥ 0) = true := by simp
          refine ⟨s, 3, g, ?_⟩
          refine agood eok (fn := Try.f146) kr_ de_ rfl kr_ ok_F1 ok_F1 ?_
          repeat' (first | refine o_cons ?_ | refine w_ok rfl ?_ | refine w_call rfl (c1) ?_ | refine w_call rfl (c2) ?_ | refine w_call rfl (c3) ?_ | refine w_call rfl (c4) ?_ | refine w_call rfl (c5) ?_ | refine o_nil ?_ | refine q_then ?_ | refine sq ?_ | refine aw_seq ?_ | refine aw_reg ?_ | refine w_pT rfl ka rfl ?_ | refine w_pF rfl ka rfl ?_ | refine o_y rfl ka ?_ | refine o_nT rfl ka ?_ | refine o_nF rfl ka ?_ | refine o_nU rfl ?_ | refine aw_cT rfl ka ?_ | refine aw_cF rfl ka ?_ | refine o_gT rfl (fun h => ?_) (fun h => ?_) | refine o_gF rfl (fun h => ?_) (fun h => ?_) | refine aw_cond rfl (fun h => ?_) (fun h => ?_) | refine aw_block ?_ | refine aw_skip ?_ | refine aw_ret ?_ | refine q_ret ?_ | refine q_blockN ?_ | refine q_blockR ?_ | refine aw_exit ?_ | refine q_exit ?_ | refine q_blockE ?_ | refine q_blockX de_ ?_ | refine fin_r rfl ?_ | (refine w_req rfl ?_ ?_; · exact rq_F1) | (refine w_lk rfl ?_; refine ⟨_, lk_F1, ?_⟩) | refine w_look (l' := _ :: _) rfl rfl ?_ | refine w_look (l' := []) rfl rfl ?_ | refine w_req rfl ?_ ?_ | refine w_pick rfl (fun b => ?_) | refine l_call rfl (c1) ?_ | refine l_call rfl (c2) ?_ | refine l_call rfl (c3) ?_ | refine l_call rfl (c4) ?_ | refine l_call rfl (c5) ?_ | refine aw_drw kr_ ?_ | refine d_cons ?_ | refine l_ok rfl ?_ | refine d_nil kr_ ?_ | refine d_y rfl ka ?_ | refine d_nT rfl ka ?_ | refine d_nF rfl ka ?_ | refine d_nU rfl ?_ | refine l_pT rfl ka rfl ?_ | refine l_pF rfl ka rfl ?_ | refine d_gT rfl (fun h => ?_) (fun h => ?_) | refine d_gF rfl (fun h => ?_) (fun h => ?_) | (refine l_req rfl ?_ ?_; · exact rq_F1) | (refine l_lk rfl ?_; refine ⟨_, lk_F1, ?_⟩) | refine l_look (l' := _ :: _) rfl rfl ?_ | refine l_look (l' := []) rfl rfl ?_ | refine l_req rfl ?_ ?_)
          rfl
        | none =>
          rw [hx] at c4
          have c4 : AGood e.P 87 [.ro (.row 4 s.u.length (uT s.u)), .ro (.str id)] (.int .i64 (-1)) [.keep, .keep] := c4
          have c6 := leftS s h (by omega)
          by_cases hq : (s.a.length : Int) - s.n < 1
          · have k1 : decide ((s.a.length : Int) - s.n < 1) = true := decide_eq_true hq
            refine ⟨s, 5, g, ?_⟩
            refine agood eok (fn := Try.f146) kr_ de_ rfl kr_ ok_F1 ok_F1 ?_
            repeat' (first | refine o_cons ?_ | refine w_ok rfl ?_ | refine w_call rfl (c1) ?_ | refine w_call rfl (c2) ?_ | refine w_call rfl (c3) ?_ | refine w_call rfl (c4) ?_ | refine w_call rfl (c5) ?_ | refine w_call rfl (c6) ?_ | refine o_nil ?_ | refine q_then ?_ | refine sq ?_ | refine aw_seq ?_ | refine aw_reg ?_ | refine w_pT rfl ka rfl ?_ | refine w_pF rfl ka rfl ?_ | refine o_y rfl ka ?_ | refine o_nT rfl ka ?_ | refine o_nF rfl ka ?_ | refine o_nU rfl ?_ | refine aw_cT rfl ka ?_ | refine aw_cF rfl ka ?_ | refine o_gT rfl (fun h => ?_) (fun h => ?_) | refine o_gF rfl (fun h => ?_) (fun h => ?_) | refine aw_cond rfl (fun h => ?_) (fun h => ?_) | refine aw_block ?_ | refine aw_skip ?_ | refine aw_ret ?_ | refine q_ret ?_ | refine q_blockN ?_ | refine q_blockR ?_ | refine aw_exit ?_ | refine q_exit ?_ | refine q_blockE ?_ | refine q_blockX de_ ?_ | refine fin_r rfl ?_ | (refine w_req rfl ?_ ?_; · exact rq_F1) | (refine w_lk rfl ?_; refine ⟨_, lk_F1, ?_⟩) | refine w_look (l' := _ :: _) rfl rfl ?_ | refine w_look (l' := []) rfl rfl ?_ | refine w_req rfl ?_ ?_ | refine w_pick rfl (fun b => ?_) | refine l_call rfl (c1) ?_ | refine l_call rfl (c2) ?_ | refine l_call rfl (c3) ?_ | refine l_call rfl (c4) ?_ | refine l_call rfl (c5) ?_ | refine l_call rfl (c6) ?_ | refine aw_drw kr_ ?_ | refine d_cons ?_ | refine l_ok rfl ?_ | refine d_nil kr_ ?_ | refine d_y rfl ka ?_ | refine d_nT rfl ka ?_ | refine d_nF rfl ka ?_ | refine d_nU rfl ?_ | refine l_pT rfl ka rfl ?_ | refine l_pF rfl ka rfl ?_ | refine d_gT rfl (fun h => ?_) (fun h => ?_) | refine d_gF rfl (fun h => ?_) (fun h => ?_) | (refine l_req rfl ?_ ?_; · exact rq_F1) | (refine l_lk rfl ?_; refine ⟨_, lk_F1, ?_⟩) | refine l_look (l' := _ :: _) rfl rfl ?_ | refine l_look (l' := []) rfl rfl ?_ | refine l_req rfl ?_ ?_)
            rfl
          · have k1 : decide ((s.a.length : Int) - s.n < 1) = false := decide_eq_false hq
            by_cases h10 : s.u.length = 10
            · have k2 : ((s.u.length : Int) == 10) = true := by simp; omega
              refine ⟨s, 5, g, ?_⟩
              refine agood eok (fn := Try.f146) kr_ de_ rfl kr_ ok_F1 ok_F1 ?_
              repeat' (first | refine o_cons ?_ | refine w_ok rfl ?_ | refine w_call rfl (c1) ?_ | refine w_call rfl (c2) ?_ | refine w_call rfl (c3) ?_ | refine w_call rfl (c4) ?_ | refine w_call rfl (c5) ?_ | refine w_call rfl (c6) ?_ | refine o_nil ?_ | refine q_then ?_ | refine sq ?_ | refine aw_seq ?_ | refine aw_reg ?_ | refine w_pT rfl ka rfl ?_ | refine w_pF rfl ka rfl ?_ | refine o_y rfl ka ?_ | refine o_nT rfl ka ?_ | refine o_nF rfl ka ?_ | refine o_nU rfl ?_ | refine aw_cT rfl ka ?_ | refine aw_cF rfl ka ?_ | refine o_gT rfl (fun h => ?_) (fun h => ?_) | refine o_gF rfl (fun h => ?_) (fun h => ?_) | refine aw_cond rfl (fun h => ?_) (fun h => ?_) | refine aw_block ?_ | refine aw_skip ?_ | refine aw_ret ?_ | refine q_ret ?_ | refine q_blockN ?_ | refine q_blockR ?_ | refine aw_exit ?_ | refine q_exit ?_ | refine q_blockE ?_ | refine q_blockX de_ ?_ | refine fin_r rfl ?_ | (refine w_req rfl ?_ ?_; · exact rq_F1) | (refine w_lk rfl ?_; refine ⟨_, lk_F1, ?_⟩) | refine w_look (l' := _ :: _) rfl rfl ?_ | refine w_look (l' := []) rfl rfl ?_ | refine w_req rfl ?_ ?_ | refine w_pick rfl (fun b => ?_) | refine l_call rfl (c1) ?_ | refine l_call rfl (c2) ?_ | refine l_call rfl (c3) ?_ | refine l_call rfl (c4) ?_ | refine l_call rfl (c5) ?_ | refine l_call rfl (c6) ?_ | refine aw_drw kr_ ?_ | refine d_cons ?_ | refine l_ok rfl ?_ | refine d_nil kr_ ?_ | refine d_y rfl ka ?_ | refine d_nT rfl ka ?_ | refine d_nF rfl ka ?_ | refine d_nU rfl ?_ | refine l_pT rfl ka rfl ?_ | refine l_pF rfl ka rfl ?_ | refine d_gT rfl (fun h => ?_) (fun h => ?_) | refine d_gF rfl (fun h => ?_) (fun h => ?_) | (refine l_req rfl ?_ ?_; · exact rq_F1) | (refine l_lk rfl ?_; refine ⟨_, lk_F1, ?_⟩) | refine l_look (l' := _ :: _) rfl rfl ?_ | refine l_look (l' := []) rfl rfl ?_ | refine l_req rfl ?_ ?_)
              rfl
            · have k2 : ((s.u.length : Int) == 10) = false := by simp; omega
              have hul := g.u
              have hone : oneM s.u ⟨s.e, s.n, 1, id, want, []⟩ = some (makeM s.u ⟨id, want, [], false⟩) := by
                unfold oneM
                rw [if_pos rfl, hx, if_pos (by simp; omega)]
              have hw9 : 0 ≤ want ∧ want ≤ 1000000000 := by omega
              have c7 := writeS s ⟨0, 0, 1, id, want, []⟩ (c := 0) rfl h (by omega) g.u hid (Nat.zero_le _) (recOk_of f.e (by omega) hi (.inl ⟨rfl, hw9, rfl⟩)) hone
              refine ⟨_, 0, g_write g (by omega) hone f.ud (show 4800 + 0 ≤ 10000 by decide), ?_⟩
              refine agood eok (fn := Try.f146) kr_ de_ rfl kr_ ok_F1 ok_F1 ?_
              repeat' (first | refine o_cons ?_ | refine w_ok rfl ?_ | refine w_call rfl (c1) ?_ | refine w_call rfl (c2) ?_ | refine w_call rfl (c3) ?_ | refine w_call rfl (c4) ?_ | refine w_call rfl (c5) ?_ | refine w_call rfl (c6) ?_ | refine w_call rfl (c7) ?_ | refine o_nil ?_ | refine q_then ?_ | refine sq ?_ | refine aw_seq ?_ | refine aw_reg ?_ | refine w_pT rfl ka rfl ?_ | refine w_pF rfl ka rfl ?_ | refine o_y rfl ka ?_ | refine o_nT rfl ka ?_ | refine o_nF rfl ka ?_ | refine o_nU rfl ?_ | refine aw_cT rfl ka ?_ | refine aw_cF rfl ka ?_ | refine o_gT rfl (fun h => ?_) (fun h => ?_) | refine o_gF rfl (fun h => ?_) (fun h => ?_) | refine aw_cond rfl (fun h => ?_) (fun h => ?_) | refine aw_block ?_ | refine aw_skip ?_ | refine aw_ret ?_ | refine q_ret ?_ | refine q_blockN ?_ | refine q_blockR ?_ | refine aw_exit ?_ | refine q_exit ?_ | refine q_blockE ?_ | refine q_blockX de_ ?_ | refine fin_r rfl ?_ | (refine w_req rfl ?_ ?_; · exact rq_F1) | (refine w_lk rfl ?_; refine ⟨_, lk_F1, ?_⟩) | refine w_look (l' := _ :: _) rfl rfl ?_ | refine w_look (l' := []) rfl rfl ?_ | refine w_req rfl ?_ ?_ | refine w_pick rfl (fun b => ?_) | refine l_call rfl (c1) ?_ | refine l_call rfl (c2) ?_ | refine l_call rfl (c3) ?_ | refine l_call rfl (c4) ?_ | refine l_call rfl (c5) ?_ | refine l_call rfl (c6) ?_ | refine l_call rfl (c7) ?_ | refine aw_drw kr_ ?_ | refine d_cons ?_ | refine l_ok rfl ?_ | refine d_nil kr_ ?_ | refine d_y rfl ka ?_ | refine d_nT rfl ka ?_ | refine d_nF rfl ka ?_ | refine d_nU rfl ?_ | refine l_pT rfl ka rfl ?_ | refine l_pF rfl ka rfl ?_ | refine d_gT rfl (fun h => ?_) (fun h => ?_) | refine d_gF rfl (fun h => ?_) (fun h => ?_) | (refine l_req rfl ?_ ?_; · exact rq_F1) | (refine l_lk rfl ?_; refine ⟨_, lk_F1, ?_⟩) | refine l_look (l' := _ :: _) rfl rfl ?_ | refine l_look (l' := []) rfl rfl ?_ | refine l_req rfl ?_ ?_)
              rfl
theorem doneUpS (s : St) (g : StG s) (id : ByteArray) (hid : id.size ≤ 1048576) (sum : Int) : ∃ s' k, StG s' ∧ AGood e.P 148 [stR s, .ro (.str id), .ro (.int .i64 sum)] (.tup [stT s', .int .i64 k]) [keep5, .keep, .keep] := by
  have h := g.sm
  have hu := h.u
  have ha := h.a
  have c1 := copyStoreS s h
  have c2 := storeOkS s h
  have c3 := idOkS id (by omega)
  have c4 := l14At s.u rfl id (by omega)
  cases hok : okM s with
  | false =>
    rw [hok] at c2
    refine ⟨s, 1, g, ?_⟩
    refine agood eok (fn := Try.f148) kr_ de_ rfl kr_ ok_F1 ok_F1 ?_
    repeat' (first | refine o_cons ?_ | refine w_ok rfl ?_ | refine w_call rfl (c1) ?_ | refine w_call rfl (c2) ?_ | refine o_nil ?_ | refine q_then ?_ | refine sq ?_ | refine aw_seq ?_ | refine aw_reg ?_ | refine w_pT rfl ka rfl ?_ | refine w_pF rfl ka rfl ?_ | refine o_y rfl ka ?_ | refine o_nT rfl ka ?_ | refine o_nF rfl ka ?_ | refine o_nU rfl ?_ | refine aw_cT rfl ka ?_ | refine aw_cF rfl ka ?_ | refine o_gT rfl (fun h => ?_) (fun h => ?_) | refine o_gF rfl (fun h => ?_) (fun h => ?_) | refine aw_cond rfl (fun h => ?_) (fun h => ?_) | refine aw_block ?_ | refine aw_skip ?_ | refine aw_ret ?_ | refine q_ret ?_ | refine q_blockN ?_ | refine q_blockR ?_ | refine aw_exit ?_ | refine q_exit ?_ | refine q_blockE ?_ | refine q_blockX de_ ?_ | refine fin_r rfl ?_ | (refine w_req rfl ?_ ?_; · exact rq_F1) | (refine w_lk rfl ?_; refine ⟨_, lk_F1, ?_⟩) | refine w_look (l' := _ :: _) rfl rfl ?_ | refine w_look (l' := []) rfl rfl ?_ | refine w_req rfl ?_ ?_ | refine w_pick rfl (fun b => ?_) | refine l_call rfl (c1) ?_ | refine l_call rfl (c2) ?_ | refine aw_drw kr_ ?_ | refine d_cons ?_ | refine l_ok rfl ?_ | refine d_nil kr_ ?_ | refine d_y rfl ka ?_ | refine d_nT rfl ka ?_ | refine d_nF rfl ka ?_ | refine d_nU rfl ?_ | refine l_pT rfl ka rfl ?_ | refine l_pF rfl ka rfl ?_ | refine d_gT rfl (fun h => ?_) (fun h => ?_) | refine d_gF rfl (fun h => ?_) (fun h => ?_) | (refine l_req rfl ?_ ?_; · exact rq_F1) | (refine l_lk rfl ?_; refine ⟨_, lk_F1, ?_⟩) | refine l_look (l' := _ :: _) rfl rfl ?_ | refine l_look (l' := []) rfl rfl ?_ | refine l_req rfl ?_ ?_)
    rfl
  | true =>
    have f := ok_fit hok
    obtain ⟨d1, d2, d3, d4⟩ := dOk_sz f.d
    have hn := f.n
    rw [hok] at c2
    cases hi : idOkM id with
    | false =>
      rw [hi] at c3
      refine ⟨s, 1, g, ?_⟩
      refine agood eok (fn := Try.f148) kr_ de_ rfl kr_ ok_F1 ok_F1 ?_
      repeat' (first | refine o_cons ?_ | refine w_ok rfl ?_ | refine w_call rfl (c1) ?_ | refine w_call rfl (c2) ?_ | refine w_call rfl (c3) ?_ | refine o_nil ?_ | refine q_then ?_ | refine sq ?_ | refine aw_seq ?_ | refine aw_reg ?_ | refine w_pT rfl ka rfl ?_ | refine w_pF rfl ka rfl ?_ | refine o_y rfl ka ?_ | refine o_nT rfl ka ?_ | refine o_nF rfl ka ?_ | refine o_nU rfl ?_ | refine aw_cT rfl ka ?_ | refine aw_cF rfl ka ?_ | refine o_gT rfl (fun h => ?_) (fun h => ?_) | refine o_gF rfl (fun h => ?_) (fun h => ?_) | refine aw_cond rfl (fun h => ?_) (fun h => ?_) | refine aw_block ?_ | refine aw_skip ?_ | refine aw_ret ?_ | refine q_ret ?_ | refine q_blockN ?_ | refine q_blockR ?_ | refine aw_exit ?_ | refine q_exit ?_ | refine q_blockE ?_ | refine q_blockX de_ ?_ | refine fin_r rfl ?_ | (refine w_req rfl ?_ ?_; · exact rq_F1) | (refine w_lk rfl ?_; refine ⟨_, lk_F1, ?_⟩) | refine w_look (l' := _ :: _) rfl rfl ?_ | refine w_look (l' := []) rfl rfl ?_ | refine w_req rfl ?_ ?_ | refine w_pick rfl (fun b => ?_) | refine l_call rfl (c1) ?_ | refine l_call rfl (c2) ?_ | refine l_call rfl (c3) ?_ | refine aw_drw kr_ ?_ | refine d_cons ?_ | refine l_ok rfl ?_ | refine d_nil kr_ ?_ | refine d_y rfl ka ?_ | refine d_nT rfl ka ?_ | refine d_nF rfl ka ?_ | refine d_nU rfl ?_ | refine l_pT rfl ka rfl ?_ | refine l_pF rfl ka rfl ?_ | refine d_gT rfl (fun h => ?_) (fun h => ?_) | refine d_gF rfl (fun h => ?_) (fun h => ?_) | (refine l_req rfl ?_ ?_; · exact rq_F1) | (refine l_lk rfl ?_; refine ⟨_, lk_F1, ?_⟩) | refine l_look (l' := _ :: _) rfl rfl ?_ | refine l_look (l' := []) rfl rfl ?_ | refine l_req rfl ?_ ?_)
      rfl
    | true =>
      rw [hi] at c3
      cases hx : idxM s.u id with
      | none =>
        rw [hx] at c4
        have c4 : AGood e.P 87 [.ro (.row 4 s.u.length (uT s.u)), .ro (.str id)] (.int .i64 (-1)) [.keep, .keep] := c4
        refine ⟨s, 2, g, ?_⟩
        refine agood eok (fn := Try.f148) kr_ de_ rfl kr_ ok_F1 ok_F1 ?_
        repeat' (first | refine o_cons ?_ | refine w_ok rfl ?_ | refine w_call rfl (c1) ?_ | refine w_call rfl (c2) ?_ | refine w_call rfl (c3) ?_ | refine w_call rfl (c4) ?_ | refine o_nil ?_ | refine q_then ?_ | refine sq ?_ | refine aw_seq ?_ | refine aw_reg ?_ | refine w_pT rfl ka rfl ?_ | refine w_pF rfl ka rfl ?_ | refine o_y rfl ka ?_ | refine o_nT rfl ka ?_ | refine o_nF rfl ka ?_ | refine o_nU rfl ?_ | refine aw_cT rfl ka ?_ | refine aw_cF rfl ka ?_ | refine o_gT rfl (fun h => ?_) (fun h => ?_) | refine o_gF rfl (fun h => ?_) (fun h => ?_) | refine aw_cond rfl (fun h => ?_) (fun h => ?_) | refine aw_block ?_ | refine aw_skip ?_ | refine aw_ret ?_ | refine q_ret ?_ | refine q_blockN ?_ | refine q_blockR ?_ | refine aw_exit ?_ | refine q_exit ?_ | refine q_blockE ?_ | refine q_blockX de_ ?_ | refine fin_r rfl ?_ | (refine w_req rfl ?_ ?_; · exact rq_F1) | (refine w_lk rfl ?_; refine ⟨_, lk_F1, ?_⟩) | refine w_look (l' := _ :: _) rfl rfl ?_ | refine w_look (l' := []) rfl rfl ?_ | refine w_req rfl ?_ ?_ | refine w_pick rfl (fun b => ?_) | refine l_call rfl (c1) ?_ | refine l_call rfl (c2) ?_ | refine l_call rfl (c3) ?_ | refine l_call rfl (c4) ?_ | refine aw_drw kr_ ?_ | refine d_cons ?_ | refine l_ok rfl ?_ | refine d_nil kr_ ?_ | refine d_y rfl ka ?_ | refine d_nT rfl ka ?_ | refine d_nF rfl ka ?_ | refine d_nU rfl ?_ | refine l_pT rfl ka rfl ?_ | refine l_pF rfl ka rfl ?_ | refine d_gT rfl (fun h => ?_) (fun h => ?_) | refine d_gF rfl (fun h => ?_) (fun h => ?_) | (refine l_req rfl ?_ ?_; · exact rq_F1) | (refine l_lk rfl ?_; refine ⟨_, lk_F1, ?_⟩) | refine l_look (l' := _ :: _) rfl rfl ?_ | refine l_look (l' := []) rfl rfl ?_ | refine l_req rfl ?_ ?_)
        rfl
      | some i =>
        rw [hx] at c4
        have c4 : AGood e.P 87 [.ro (.row 4 s.u.length (uT s.u)), .ro (.str id)] (.int .i64 (i : Int)) [.keep, .keep] := c4
        have k0 : decide ((i : Int) < 0) = false := by simp
        have hil := idx_lt hx
        have hdi := getD_all h.d hil (z := zeroU)
        have hwi := getD_all (ok_w hok) hil (z := zeroU)
        have g1 : 0 ≤ (i : Int) ∧ (i : Int) < (s.u.length : Int) := by omega
        have c5 := crcS (s.u.getD (i : Int).toNat zeroU).d rfl (by rw [Int.toNat_natCast]; omega)
        by_cases h1 : ((s.u.getD i zeroU).d.length : Int) < (s.u.getD i zeroU).w
        · have k1 : decide (((s.u.getD (i : Int).toNat zeroU).d.length : Int) < (s.u.getD (i : Int).toNat zeroU).w) = true := decide_eq_true h1
          refine ⟨s, 4, g, ?_⟩
          refine agood eok (fn := Try.f148) kr_ de_ rfl kr_ ok_F1 ok_F1 ?_
          repeat' (first | refine o_cons ?_ | refine w_ok rfl ?_ | refine w_call rfl (c1) ?_ | refine w_call rfl (c2) ?_ | refine w_call rfl (c3) ?_ | refine w_call rfl (c4) ?_ | refine o_nil ?_ | refine q_then ?_ | refine sq ?_ | refine aw_seq ?_ | refine aw_reg ?_ | refine w_pT rfl ka rfl ?_ | refine w_pF rfl ka rfl ?_ | refine o_y rfl ka ?_ | refine o_nT rfl ka ?_ | refine o_nF rfl ka ?_ | refine o_nU rfl ?_ | refine aw_cT rfl ka ?_ | refine aw_cF rfl ka ?_ | refine o_gT rfl (fun h => ?_) (fun h => ?_) | refine o_gF rfl (fun h => ?_) (fun h => ?_) | refine aw_cond rfl (fun h => ?_) (fun h => ?_) | refine aw_block ?_ | refine aw_skip ?_ | refine aw_ret ?_ | refine q_ret ?_ | refine q_blockN ?_ | refine q_blockR ?_ | refine aw_exit ?_ | refine q_exit ?_ | refine q_blockE ?_ | refine q_blockX de_ ?_ | refine fin_r rfl ?_ | (refine w_req rfl ?_ ?_; · exact rq_F1) | (refine w_lk rfl ?_; refine ⟨_, lk_F1, ?_⟩) | refine w_look (l' := _ :: _) rfl rfl ?_ | refine w_look (l' := []) rfl rfl ?_ | refine w_req rfl ?_ ?_ | refine w_pick rfl (fun b => ?_) | refine l_call rfl (c1) ?_ | refine l_call rfl (c2) ?_ | refine l_call rfl (c3) ?_ | refine l_call rfl (c4) ?_ | refine aw_drw kr_ ?_ | refine d_cons ?_ | refine l_ok rfl ?_ | refine d_nil kr_ ?_ | refine d_y rfl ka ?_ | refine d_nT rfl ka ?_ | refine d_nF rfl ka ?_ | refine d_nU rfl ?_ | refine l_pT rfl ka rfl ?_ | refine l_pF rfl ka rfl ?_ | refine d_gT rfl (fun h => ?_) (fun h => ?_) | refine d_gF rfl (fun h => ?_) (fun h => ?_) | (refine l_req rfl ?_ ?_; · exact rq_F1) | (refine l_lk rfl ?_; refine ⟨_, lk_F1, ?_⟩) | refine l_look (l' := _ :: _) rfl rfl ?_ | refine l_look (l' := []) rfl rfl ?_ | refine l_req rfl ?_ ?_)
          rfl
        · have k1 : decide (((s.u.getD (i : Int).toNat zeroU).d.length : Int) < (s.u.getD (i : Int).toNat zeroU).w) = false := decide_eq_false h1
          have hwe : ((s.u.getD i zeroU).d.length : Int) = (s.u.getD i zeroU).w := by have := hwi.1; omega
          by_cases h2 : sum = crcM (s.u.getD i zeroU).d
          · have k2 : (sum != crcM (s.u.getD (i : Int).toNat zeroU).d) = false := by rw [Int.toNat_natCast]; simpa using h2
            cases h3 : (s.u.getD i zeroU).f with
            | true =>
              have h3' : (s.u.getD (i : Int).toNat zeroU).f = true := h3
              refine ⟨s, 0, g, ?_⟩
              refine agood eok (fn := Try.f148) kr_ de_ rfl kr_ ok_F1 ok_F1 ?_
              repeat' (first | refine o_cons ?_ | refine w_ok rfl ?_ | refine w_call rfl (c1) ?_ | refine w_call rfl (c2) ?_ | refine w_call rfl (c3) ?_ | refine w_call rfl (c4) ?_ | refine w_call rfl (c5) ?_ | refine o_nil ?_ | refine q_then ?_ | refine sq ?_ | refine aw_seq ?_ | refine aw_reg ?_ | refine w_pT rfl ka rfl ?_ | refine w_pF rfl ka rfl ?_ | refine o_y rfl ka ?_ | refine o_nT rfl ka ?_ | refine o_nF rfl ka ?_ | refine o_nU rfl ?_ | refine aw_cT rfl ka ?_ | refine aw_cF rfl ka ?_ | refine o_gT rfl (fun h => ?_) (fun h => ?_) | refine o_gF rfl (fun h => ?_) (fun h => ?_) | refine aw_cond rfl (fun h => ?_) (fun h => ?_) | refine aw_block ?_ | refine aw_skip ?_ | refine aw_ret ?_ | refine q_ret ?_ | refine q_blockN ?_ | refine q_blockR ?_ | refine aw_exit ?_ | refine q_exit ?_ | refine q_blockE ?_ | refine q_blockX de_ ?_ | refine fin_r rfl ?_ | (refine w_req rfl ?_ ?_; · exact rq_F1) | (refine w_lk rfl ?_; refine ⟨_, lk_F1, ?_⟩) | refine w_look (l' := _ :: _) rfl rfl ?_ | refine w_look (l' := []) rfl rfl ?_ | refine w_req rfl ?_ ?_ | refine w_pick rfl (fun b => ?_) | refine l_call rfl (c1) ?_ | refine l_call rfl (c2) ?_ | refine l_call rfl (c3) ?_ | refine l_call rfl (c4) ?_ | refine l_call rfl (c5) ?_ | refine aw_drw kr_ ?_ | refine d_cons ?_ | refine l_ok rfl ?_ | refine d_nil kr_ ?_ | refine d_y rfl ka ?_ | refine d_nT rfl ka ?_ | refine d_nF rfl ka ?_ | refine d_nU rfl ?_ | refine l_pT rfl ka rfl ?_ | refine l_pF rfl ka rfl ?_ | refine d_gT rfl (fun h => ?_) (fun h => ?_) | refine d_gF rfl (fun h => ?_) (fun h => ?_) | (refine l_req rfl ?_ ?_; · exact rq_F1) | (refine l_lk rfl ?_; refine ⟨_, lk_F1, ?_⟩) | refine l_look (l' := _ :: _) rfl rfl ?_ | refine l_look (l' := []) rfl rfl ?_ | refine l_req rfl ?_ ?_)
              rfl
            | false =>
              have h3' : (s.u.getD (i : Int).toNat zeroU).f = false := h3
              have c6 := leftS s h (by omega)
              by_cases hq : (s.a.length : Int) - s.n < 1
              · have k3 : decide ((s.a.length : Int) - s.n < 1) = true := decide_eq_true hq
                refine ⟨s, 5, g, ?_⟩
                refine agood eok (fn := Try.f148) kr_ de_ rfl kr_ ok_F1 ok_F1 ?_
                repeat' (first | refine o_cons ?_ | refine w_ok rfl ?_ | refine w_call rfl (c1) ?_ | refine w_call rfl (c2) ?_ | refine w_call rfl (c3) ?_ | refine w_call rfl (c4) ?_ | refine w_call rfl (c5) ?_ | refine w_call rfl (c6) ?_ | refine o_nil ?_ | refine q_then ?_ | refine sq ?_ | refine aw_seq ?_ | refine aw_reg ?_ | refine w_pT rfl ka rfl ?_ | refine w_pF rfl ka rfl ?_ | refine o_y rfl ka ?_ | refine o_nT rfl ka ?_ | refine o_nF rfl ka ?_ | refine o_nU rfl ?_ | refine aw_cT rfl ka ?_ | refine aw_cF rfl ka ?_ | refine o_gT rfl (fun h => ?_) (fun h => ?_) | refine o_gF rfl (fun h => ?_) (fun h => ?_) | refine aw_cond rfl (fun h => ?_) (fun h => ?_) | refine aw_block ?_ | refine aw_skip ?_ | refine aw_ret ?_ | refine q_ret ?_ | refine q_blockN ?_ | refine q_blockR ?_ | refine aw_exit ?_ | refine q_exit ?_ | refine q_blockE ?_ | refine q_blockX de_ ?_ | refine fin_r rfl ?_ | (refine w_req rfl ?_ ?_; · exact rq_F1) | (refine w_lk rfl ?_; refine ⟨_, lk_F1, ?_⟩) | refine w_look (l' := _ :: _) rfl rfl ?_ | refine w_look (l' := []) rfl rfl ?_ | refine w_req rfl ?_ ?_ | refine w_pick rfl (fun b => ?_) | refine l_call rfl (c1) ?_ | refine l_call rfl (c2) ?_ | refine l_call rfl (c3) ?_ | refine l_call rfl (c4) ?_ | refine l_call rfl (c5) ?_ | refine l_call rfl (c6) ?_ | refine aw_drw kr_ ?_ | refine d_cons ?_ | refine l_ok rfl ?_ | refine d_nil kr_ ?_ | refine d_y rfl ka ?_ | refine d_nT rfl ka ?_ | refine d_nF rfl ka ?_ | refine d_nU rfl ?_ | refine l_pT rfl ka rfl ?_ | refine l_pF rfl ka rfl ?_ | refine d_gT rfl (fun h => ?_) (fun h => ?_) | refine d_gF rfl (fun h => ?_) (fun h => ?_) | (refine l_req rfl ?_ ?_; · exact rq_F1) | (refine l_lk rfl ?_; refine ⟨_, lk_F1, ?_⟩) | refine l_look (l' := _ :: _) rfl rfl ?_ | refine l_look (l' := []) rfl rfl ?_ | refine l_req rfl ?_ ?_)
                rfl
              · have k3 : decide ((s.a.length : Int) - s.n < 1) = false := decide_eq_false hq
                have hone : oneM s.u ⟨s.e, s.n, 3, id, 0, []⟩ = some (s.u.set i ⟨(s.u.getD i zeroU).s, (s.u.getD i zeroU).w, (s.u.getD i zeroU).d, true⟩) := by
                  unfold oneM
                  rw [if_neg (show ¬ (3 : Int) = 1 by decide)]
                  simp only [hx]
                  rw [if_neg (show ¬ (3 : Int) = 2 by decide), if_pos trivial, h3, if_neg (by simpa using hwe)]
                have c7 := writeS s ⟨0, 0, 3, id, 0, []⟩ (c := 0) rfl h (by omega) g.u hid (Nat.zero_le _) (recOk_of f.e (by omega) hi (.inr (.inr (.inl ⟨rfl, rfl, rfl⟩)))) hone
                refine ⟨_, 0, g_write g (by omega) hone f.ud (show 4800 + 0 ≤ 10000 by decide), ?_⟩
                refine agood eok (fn := Try.f148) kr_ de_ rfl kr_ ok_F1 ok_F1 ?_
                repeat' (first | refine o_cons ?_ | refine w_ok rfl ?_ | refine w_call rfl (c1) ?_ | refine w_call rfl (c2) ?_ | refine w_call rfl (c3) ?_ | refine w_call rfl (c4) ?_ | refine w_call rfl (c5) ?_ | refine w_call rfl (c6) ?_ | refine w_call rfl (c7) ?_ | refine o_nil ?_ | refine q_then ?_ | refine sq ?_ | refine aw_seq ?_ | refine aw_reg ?_ | refine w_pT rfl ka rfl ?_ | refine w_pF rfl ka rfl ?_ | refine o_y rfl ka ?_ | refine o_nT rfl ka ?_ | refine o_nF rfl ka ?_ | refine o_nU rfl ?_ | refine aw_cT rfl ka ?_ | refine aw_cF rfl ka ?_ | refine o_gT rfl (fun h => ?_) (fun h => ?_) | refine o_gF rfl (fun h => ?_) (fun h => ?_) | refine aw_cond rfl (fun h => ?_) (fun h => ?_) | refine aw_block ?_ | refine aw_skip ?_ | refine aw_ret ?_ | refine q_ret ?_ | refine q_blockN ?_ | refine q_blockR ?_ | refine aw_exit ?_ | refine q_exit ?_ | refine q_blockE ?_ | refine q_blockX de_ ?_ | refine fin_r rfl ?_ | (refine w_req rfl ?_ ?_; · exact rq_F1) | (refine w_lk rfl ?_; refine ⟨_, lk_F1, ?_⟩) | refine w_look (l' := _ :: _) rfl rfl ?_ | refine w_look (l' := []) rfl rfl ?_ | refine w_req rfl ?_ ?_ | refine w_pick rfl (fun b => ?_) | refine l_call rfl (c1) ?_ | refine l_call rfl (c2) ?_ | refine l_call rfl (c3) ?_ | refine l_call rfl (c4) ?_ | refine l_call rfl (c5) ?_ | refine l_call rfl (c6) ?_ | refine l_call rfl (c7) ?_ | refine aw_drw kr_ ?_ | refine d_cons ?_ | refine l_ok rfl ?_ | refine d_nil kr_ ?_ | refine d_y rfl ka ?_ | refine d_nT rfl ka ?_ | refine d_nF rfl ka ?_ | refine d_nU rfl ?_ | refine l_pT rfl ka rfl ?_ | refine l_pF rfl ka rfl ?_ | refine d_gT rfl (fun h => ?_) (fun h => ?_) | refine d_gF rfl (fun h => ?_) (fun h => ?_) | (refine l_req rfl ?_ ?_; · exact rq_F1) | (refine l_lk rfl ?_; refine ⟨_, lk_F1, ?_⟩) | refine l_look (l' := _ :: _) rfl rfl ?_ | refine l_look (l' := []) rfl rfl ?_ | refine l_req rfl ?_ ?_)
                rfl
          · have k2 : (sum != crcM (s.u.getD (i : Int).toNat zeroU).d) = true := by rw [Int.toNat_natCast]; simpa using h2
            refine ⟨s, 6, g, ?_⟩
            refine agood eok (fn := Try.f148) kr_ de_ rfl kr_ ok_F1 ok_F1 ?_
            repeat' (first | refine o_cons ?_ | refine w_ok rfl ?_ | refine w_call rfl (c1) ?_ | refine w_call rfl (c2) ?_ | refine w_call rfl (c3) ?_ | refine w_call rfl (c4) ?_ | refine w_call rfl (c5) ?_ | refine o_nil ?_ | refine q_then ?_ | refine sq ?_ | refine aw_seq ?_ | refine aw_reg ?_ | refine w_pT rfl ka rfl ?_ | refine w_pF rfl ka rfl ?_ | refine o_y rfl ka ?_ | refine o_nT rfl ka ?_ | refine o_nF rfl ka ?_ | refine o_nU rfl ?_ | refine aw_cT rfl ka ?_ | refine aw_cF rfl ka ?_ | refine o_gT rfl (fun h => ?_) (fun h => ?_) | refine o_gF rfl (fun h => ?_) (fun h => ?_) | refine aw_cond rfl (fun h => ?_) (fun h => ?_) | refine aw_block ?_ | refine aw_skip ?_ | refine aw_ret ?_ | refine q_ret ?_ | refine q_blockN ?_ | refine q_blockR ?_ | refine aw_exit ?_ | refine q_exit ?_ | refine q_blockE ?_ | refine q_blockX de_ ?_ | refine fin_r rfl ?_ | (refine w_req rfl ?_ ?_; · exact rq_F1) | (refine w_lk rfl ?_; refine ⟨_, lk_F1, ?_⟩) | refine w_look (l' := _ :: _) rfl rfl ?_ | refine w_look (l' := []) rfl rfl ?_ | refine w_req rfl ?_ ?_ | refine w_pick rfl (fun b => ?_) | refine l_call rfl (c1) ?_ | refine l_call rfl (c2) ?_ | refine l_call rfl (c3) ?_ | refine l_call rfl (c4) ?_ | refine l_call rfl (c5) ?_ | refine aw_drw kr_ ?_ | refine d_cons ?_ | refine l_ok rfl ?_ | refine d_nil kr_ ?_ | refine d_y rfl ka ?_ | refine d_nT rfl ka ?_ | refine d_nF rfl ka ?_ | refine d_nU rfl ?_ | refine l_pT rfl ka rfl ?_ | refine l_pF rfl ka rfl ?_ | refine d_gT rfl (fun h => ?_) (fun h => ?_) | refine d_gF rfl (fun h => ?_) (fun h => ?_) | (refine l_req rfl ?_ ?_; · exact rq_F1) | (refine l_lk rfl ?_; refine ⟨_, lk_F1, ?_⟩) | refine l_look (l' := _ :: _) rfl rfl ?_ | refine l_look (l' := []) rfl rfl ?_ | refine l_req rfl ?_ ?_)
            rfl
theorem drop_g {s : St} (g : StG s) (id : ByteArray) : StG (dropM s id).1 := by
  unfold dropM
  split
  · rename_i hc
    rw [Bool.and_eq_true] at hc
    have f := ok_fit hc.1
    have hn := f.n
    have ha := g.a
    split
    · split
      · exact g
      · refine ⟨by simpa [dropT] using g.a, g.b, set_all g.az (putS_size _), g.bz, by simp only [dropT]; omega, Nat.le_trans (List.length_eraseIdx_le _ _) g.u, fun x hx => g.d x (List.mem_of_mem_eraseIdx hx)⟩
    · exact g
  · exact g
theorem sync_g {s : St} (g : StG s) : StG (syncM s) := by
  unfold syncM
  split
  · exact ⟨g.a, g.a, g.az, g.az, g.n, g.u, g.d⟩
  · exact g
theorem open_g {a b : List ByteArray} {s : St} (h : openM a b = some s) : StG s := by
  unfold openM at h
  split at h
  · rename_i hd
    obtain ⟨d1, d2, d3, d4⟩ := dOk_sz hd
    split at h
    · cases h
    · rename_i u hF
      obtain ⟨hul, hud⟩ := foldM_ok _ (B := 0) hF (Nat.zero_le _) (fun x hx => by cases hx)
      have hsl := scanM_len a
      have hsm := sumD_24 _ (scan_d (a := a))
      split at h
      · cases h
      · injection h with h
        subst h
        exact ⟨d2, by simp only; omega, d3, d4, by simp only; omega, hul, fun x hx => by have := hud x hx; omega⟩
  · cases h
end Go.Proofs.Ytbkpmljdmlhmhaa
