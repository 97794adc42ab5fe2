import Derived.Test.YtbkpmljdmlhmhaaF1
namespace Go.Proofs.Ytbkpmljdmlhmhaa
open Go Go.AM Ty
set_option maxRecDepth 100000
set_option maxHeartbeats 4000000
set_option linter.unusedVariables false
set_option linter.unusedSimpArgs false
attribute [local irreducible] aw aops aopsD wpo wpoL condW guardW thenQ blockQ finQ Le AGood
theorem rq_F2 {p : Prop} (h : p := by first | assumption | exact uT_plain _ | exact sT_plain _ | exact rq_) : p := h
theorem lk_F2 {p : Prop} (h : p := by first | exact bT_app _ _ | exact e1 | exact uT_el side_ | exact lk_) : p := h
theorem ok_F2 {p : Prop} (h : p := by first | exact ⟨⟨⟨sT_plain _, sT_plain _, trivial, trivial, uT_plain _, trivial⟩, by simp [cells1, Tr.cellB]⟩, trivial, trivial⟩ | exact ⟨⟨sT_plain _, sT_plain _, trivial, trivial, uT_plain _, trivial⟩, by simp [cells1, Tr.cellB]⟩ | (simp [Tr.okR, Tr.okRL, Tr.plainL, Tr.plain, cells1, Tr.cellB, PB.okRL, PB.okR, bT_plain, sT_plain, oT_plain, nT_plain, uT_plain, sT_plain]; done) | exact ok_) : p := h
theorem idx_set {l : List Upp} {id : ByteArray} {k : Nat} {x : Upp} (h : idxM l id = some k) (hx : x.s = (l.getD k zeroU).s) : idxM (l.set k x) id = some k := by
  have hk := idx_lt h
  unfold idxM at h
  rw [List.findIdx?_eq_some_iff_getElem] at h
  obtain ⟨h1, h2, h3⟩ := h
  refine idx_some (by rw [List.length_set]; exact hk) (fun j hj => ?_) ?_
  · have h4 := h3 j hj
    have hjl : j < l.length := by omega
    rw [List.getD_eq_getElem?_getD, List.getElem?_set_ne (by omega), List.getElem?_eq_getElem hjl]
    simpa using h4
  · rw [getD_set_same hk]
    unfold idP at h2 ⊢
    rw [hx, List.getD_eq_getElem?_getD, List.getElem?_eq_getElem hk]
    exact h2
attribute [local irreducible] getRecM scanM foldM topM dOk okM putS idOkM idxM
/-- on the way: i pieces are written -/
structure Pt (s t : St) (id : ByteArray) (k : Nat) (off W : Int) (len i : Nat) : Prop where
  g : StG t
  al : t.a.length = s.a.length
  e : t.e = s.e
  n : t.n = s.n + i
  ix : idxM t.u id = some k
  f : (t.u.getD k zeroU).f = false
  w : (t.u.getD k zeroU).w = W
  dl : ((t.u.getD k zeroU).d.length : Int) = off + (min (24 * i) len : Nat)
  B : ∀ x ∈ t.u, x.d.length ≤ 4800 + 24 * i
theorem pt_one {s t : St} {id : ByteArray} {k : Nat} {off W : Int} {len i : Nat} (p : Pt s t id k off W len i) (hlt : 24 * i < len) (hw : off + len ≤ W) {part : List UInt8} (hp : part.length = min 24 (len - 24 * i)) :
    oneM t.u ⟨t.e, t.n, 2, id, off + (24 * i : Nat), part⟩ = some (t.u.set k ⟨(t.u.getD k zeroU).s, (t.u.getD k zeroU).w, (t.u.getD k zeroU).d ++ part, (t.u.getD k zeroU).f⟩) := by
  have h1 := p.dl
  have h2 := p.w
  unfold oneM
  rw [if_neg (show ¬ (2 : Int) = 1 by decide)]
  simp only [p.ix]
  rw [if_pos trivial, p.f, if_neg]
  simp only [Bool.false_or, Bool.or_eq_true, decide_eq_true_eq, not_or, Decidable.not_not]
  constructor
  · rw [h1]; congr 2; omega
  · rw [h2]; omega
theorem pt_step {s t : St} {id : ByteArray} {k : Nat} {off W : Int} {len i : Nat} (p : Pt s t id k off W len i) (hlt : 24 * i < len) (hl : len ≤ 400) (hw : off + len ≤ W) {part : List UInt8} (hp : part.length = min 24 (len - 24 * i)) (hn : t.n < t.a.length) :
    Pt s ⟨t.a.set t.n.toNat (putS ⟨t.e, t.n, 2, id, off + (24 * i : Nat), part⟩), t.b, t.e, t.n + 1, t.u.set k ⟨(t.u.getD k zeroU).s, (t.u.getD k zeroU).w, (t.u.getD k zeroU).d ++ part, (t.u.getD k zeroU).f⟩⟩ id k off W len (i + 1) := by
  have hone := pt_one p hlt hw hp
  have hk := idx_lt p.ix
  have h1 := p.dl
  have h3 := p.n
  refine ⟨g_write p.g hn hone p.B (by simp only; omega), by simpa using p.al, p.e, by simp only; omega, idx_set p.ix rfl, by simp only; rw [getD_set_same hk]; exact p.f, by simp only; rw [getD_set_same hk]; exact p.w, ?_, fun x hx => ?_⟩
  · simp only
    rw [getD_set_same hk]
    simp only [List.length_append]
    omega
  · have := oneM_d hone p.B x hx
    simp only at this
    omega
/-- a piece of what is put -/
def part (data : List UInt8) (i : Nat) : List UInt8 := (data.drop (24 * i)).take 24
theorem part_len (data : List UInt8) (i : Nat) : (part data i).length = min 24 (data.length - 24 * i) := by
  unfold part
  rw [List.length_take, List.length_drop]
def pStep (id : ByteArray) (k : Nat) (off : Int) (data : List UInt8) (t : St) (i : Nat) : St := ⟨t.a.set t.n.toNat (putS ⟨t.e, t.n, 2, id, off + (24 * i : Nat), part data i⟩), t.b, t.e, t.n + 1, t.u.set k ⟨(t.u.getD k zeroU).s, (t.u.getD k zeroU).w, (t.u.getD k zeroU).d ++ part data i, (t.u.getD k zeroU).f⟩⟩
def pGo (id : ByteArray) (k : Nat) (off : Int) (data : List UInt8) (s : St) : Nat → St
  | 0 => s
  | i + 1 => pStep id k off data (pGo id k off data s i) i
theorem pGo_ok {s : St} {id : ByteArray} {k : Nat} {off W : Int} {data : List UInt8} (p0 : Pt s s id k off W data.length 0) (hl : data.length ≤ 400) (hw : off + data.length ≤ W) (hn : s.n + (((data.length + 23) / 24 : Nat) : Int) ≤ s.a.length) : ∀ i, 24 * i < data.length + 24 → Pt s (pGo id k off data s i) id k off W data.length i
  | 0, _ => p0
  | i + 1, h => by
    have p := pGo_ok p0 hl hw hn i (by omega)
    have h1 := p.n
    have h2 := p.al
    exact pt_step p (by omega) hl hw (part_len data i) (by omega)
theorem putUpS (s : St) (g : StG s) (id : ByteArray) (hid : id.size ≤ 1048576) (off : Int) (data : List UInt8) {c : Nat} (hc : c = data.length) (hdl : data.length ≤ 1048576) : ∃ s' k, StG s' ∧ AGood e.P 147 [stR s, .ro (.str id), .ro (.int .i64 off), .ro (.row 1 c (bT data))] (.tup [stT s', .int .i64 k]) [keep5, .keep, .keep, .keep] := by
  subst hc
  have h := g.sm
  have hu := h.u
  have ha := h.a
  have c1 := copyStoreS s h
  have c2 := storeOkS s h
  have c3 := idOkS id (by omega)
  have c4 := l14At s.u rfl id (by omega)
  have c5 := inRangeS (data.length : Int) 1 400
  cases hok : okM s with
  | false =>
    rw [hok] at c2
    refine ⟨s, 1, g, ?_⟩
    refine agood eok (fn := Try.f147) kr_ de_ rfl kr_ ok_F2 ok_F2 ?_
    repeat' (first | refine o_cons ?_ | refine w_ok rfl ?_ | refine w_call rfl (c1) ?_ | refine w_call rfl (c2) ?_ | refine o_nil ?_ | refine q_then ?_ | refine sq ?_ | refine aw_seq ?_ | refine aw_reg ?_ | refine w_pT rfl ka rfl ?_ | refine w_pF rfl ka rfl ?_ | refine o_y rfl ka ?_ | refine o_nT rfl ka ?_ | refine o_nF rfl ka ?_ | refine o_nU rfl ?_ | refine aw_cT rfl ka ?_ | refine aw_cF rfl ka ?_ | refine o_gT rfl (fun h => ?_) (fun h => ?_) | refine o_gF rfl (fun h => ?_) (fun h => ?_) | refine aw_cond rfl (fun h => ?_) (fun h => ?_) | refine aw_block ?_ | refine aw_skip ?_ | refine aw_ret ?_ | refine q_ret ?_ | refine q_blockN ?_ | refine q_blockR ?_ | refine aw_exit ?_ | refine q_exit ?_ | refine q_blockE ?_ | refine q_blockX de_ ?_ | refine fin_r rfl ?_ | (refine w_req rfl ?_ ?_; · exact rq_F2) | (refine w_lk rfl ?_; refine ⟨_, lk_F2, ?_⟩) | refine w_look (l' := _ :: _) rfl rfl ?_ | refine w_look (l' := []) rfl rfl ?_ | refine w_req rfl ?_ ?_ | refine w_pick rfl (fun b => ?_) | refine l_call rfl (c1) ?_ | refine l_call rfl (c2) ?_ | refine aw_drw kr_ ?_ | refine d_cons ?_ | refine l_ok rfl ?_ | refine d_nil kr_ ?_ | refine d_y rfl ka ?_ | refine d_nT rfl ka ?_ | refine d_nF rfl ka ?_ | refine d_nU rfl ?_ | refine l_pT rfl ka rfl ?_ | refine l_pF rfl ka rfl ?_ | refine d_gT rfl (fun h => ?_) (fun h => ?_) | refine d_gF rfl (fun h => ?_) (fun h => ?_) | (refine l_req rfl ?_ ?_; · exact rq_F2) | (refine l_lk rfl ?_; refine ⟨_, lk_F2, ?_⟩) | refine l_look (l' := _ :: _) rfl rfl ?_ | refine l_look (l' := []) rfl rfl ?_ | refine l_req rfl ?_ ?_)
    rfl
  | true =>
    have f := ok_fit hok
    obtain ⟨d1, d2, d3, d4⟩ := dOk_sz f.d
    have hn := f.n
    rw [hok] at c2
    cases hi : idOkM id with
    | false =>
      rw [hi] at c3
      refine ⟨s, 1, g, ?_⟩
      refine agood eok (fn := Try.f147) kr_ de_ rfl kr_ ok_F2 ok_F2 ?_
      repeat' (first | refine o_cons ?_ | refine w_ok rfl ?_ | refine w_call rfl (c1) ?_ | refine w_call rfl (c2) ?_ | refine w_call rfl (c3) ?_ | refine o_nil ?_ | refine q_then ?_ | refine sq ?_ | refine aw_seq ?_ | refine aw_reg ?_ | refine w_pT rfl ka rfl ?_ | refine w_pF rfl ka rfl ?_ | refine o_y rfl ka ?_ | refine o_nT rfl ka ?_ | refine o_nF rfl ka ?_ | refine o_nU rfl ?_ | refine aw_cT rfl ka ?_ | refine aw_cF rfl ka ?_ | refine o_gT rfl (fun h => ?_) (fun h => ?_) | refine o_gF rfl (fun h => ?_) (fun h => ?_) | refine aw_cond rfl (fun h => ?_) (fun h => ?_) | refine aw_block ?_ | refine aw_skip ?_ | refine aw_ret ?_ | refine q_ret ?_ | refine q_blockN ?_ | refine q_blockR ?_ | refine aw_exit ?_ | refine q_exit ?_ | refine q_blockE ?_ | refine q_blockX de_ ?_ | refine fin_r rfl ?_ | (refine w_req rfl ?_ ?_; · exact rq_F2) | (refine w_lk rfl ?_; refine ⟨_, lk_F2, ?_⟩) | refine w_look (l' := _ :: _) rfl rfl ?_ | refine w_look (l' := []) rfl rfl ?_ | refine w_req rfl ?_ ?_ | refine w_pick rfl (fun b => ?_) | refine l_call rfl (c1) ?_ | refine l_call rfl (c2) ?_ | refine l_call rfl (c3) ?_ | refine aw_drw kr_ ?_ | refine d_cons ?_ | refine l_ok rfl ?_ | refine d_nil kr_ ?_ | refine d_y rfl ka ?_ | refine d_nT rfl ka ?_ | refine d_nF rfl ka ?_ | refine d_nU rfl ?_ | refine l_pT rfl ka rfl ?_ | refine l_pF rfl ka rfl ?_ | refine d_gT rfl (fun h => ?_) (fun h => ?_) | refine d_gF rfl (fun h => ?_) (fun h => ?_) | (refine l_req rfl ?_ ?_; · exact rq_F2) | (refine l_lk rfl ?_; refine ⟨_, lk_F2, ?_⟩) | refine l_look (l' := _ :: _) rfl rfl ?_ | refine l_look (l' := []) rfl rfl ?_ | refine l_req rfl ?_ ?_)
      rfl
    | true =>
      rw [hi] at c3
      cases hw : (decide (1 ≤ (data.length : Int)) && decide ((data.length : Int) ≤ 400)) with
      | false =>
        rw [hw] at c5
        refine ⟨s, 1, g, ?_⟩
        refine agood eok (fn := Try.f147) kr_ de_ rfl kr_ ok_F2 ok_F2 ?_
        repeat' (first | refine o_cons ?_ | refine w_ok rfl ?_ | refine w_call rfl (c1) ?_ | refine w_call rfl (c2) ?_ | refine w_call rfl (c3) ?_ | refine w_call rfl (c5) ?_ | refine o_nil ?_ | refine q_then ?_ | refine sq ?_ | refine aw_seq ?_ | refine aw_reg ?_ | refine w_pT rfl ka rfl ?_ | refine w_pF rfl ka rfl ?_ | refine o_y rfl ka ?_ | refine o_nT rfl ka ?_ | refine o_nF rfl ka ?_ | refine o_nU rfl ?_ | refine aw_cT rfl ka ?_ | refine aw_cF rfl ka ?_ | refine o_gT rfl (fun h => ?_) (fun h => ?_) | refine o_gF rfl (fun h => ?_) (fun h => ?_) | refine aw_cond rfl (fun h => ?_) (fun h => ?_) | refine aw_block ?_ | refine aw_skip ?_ | refine aw_ret ?_ | refine q_ret ?_ | refine q_blockN ?_ | refine q_blockR ?_ | refine aw_exit ?_ | refine q_exit ?_ | refine q_blockE ?_ | refine q_blockX de_ ?_ | refine fin_r rfl ?_ | (refine w_req rfl ?_ ?_; · exact rq_F2) | (refine w_lk rfl ?_; refine ⟨_, lk_F2, ?_⟩) | refine w_look (l' := _ :: _) rfl rfl ?_ | refine w_look (l' := []) rfl rfl ?_ | refine w_req rfl ?_ ?_ | refine w_pick rfl (fun b => ?_) | refine l_call rfl (c1) ?_ | refine l_call rfl (c2) ?_ | refine l_call rfl (c3) ?_ | refine l_call rfl (c5) ?_ | refine aw_drw kr_ ?_ | refine d_cons ?_ | refine l_ok rfl ?_ | refine d_nil kr_ ?_ | refine d_y rfl ka ?_ | refine d_nT rfl ka ?_ | refine d_nF rfl ka ?_ | refine d_nU rfl ?_ | refine l_pT rfl ka rfl ?_ | refine l_pF rfl ka rfl ?_ | refine d_gT rfl (fun h => ?_) (fun h => ?_) | refine d_gF rfl (fun h => ?_) (fun h => ?_) | (refine l_req rfl ?_ ?_; · exact rq_F2) | (refine l_lk rfl ?_; refine ⟨_, lk_F2, ?_⟩) | refine l_look (l' := _ :: _) rfl rfl ?_ | refine l_look (l' := []) rfl rfl ?_ | refine l_req rfl ?_ ?_)
        rfl
      | true =>
        rw [hw] at c5
        have hl4 : 1 ≤ data.length ∧ data.length ≤ 400 := by simp at hw; omega
        cases hx : idxM s.u id with
        | none =>
          rw [hx] at c4
          have c4 : AGood e.P 87 [.ro (.row 4 s.u.length (uT s.u)), .ro (.str id)] (.int .i64 (-1)) [.keep, .keep] := c4
          refine ⟨s, 2, g, ?_⟩
          refine agood eok (fn := Try.f147) kr_ de_ rfl kr_ ok_F2 ok_F2 ?_
          repeat' (first | refine o_cons ?_ | refine w_ok rfl ?_ | refine w_call rfl (c1) ?_ | refine w_call rfl (c2) ?_ | refine w_call rfl (c3) ?_ | refine w_call rfl (c4) ?_ | refine w_call rfl (c5) ?_ | refine o_nil ?_ | refine q_then ?_ | refine sq ?_ | refine aw_seq ?_ | refine aw_reg ?_ | refine w_pT rfl ka rfl ?_ | refine w_pF rfl ka rfl ?_ | refine o_y rfl ka ?_ | refine o_nT rfl ka ?_ | refine o_nF rfl ka ?_ | refine o_nU rfl ?_ | refine aw_cT rfl ka ?_ | refine aw_cF rfl ka ?_ | refine o_gT rfl (fun h => ?_) (fun h => ?_) | refine o_gF rfl (fun h => ?_) (fun h => ?_) | refine aw_cond rfl (fun h => ?_) (fun h => ?_) | refine aw_block ?_ | refine aw_skip ?_ | refine aw_ret ?_ | refine q_ret ?_ | refine q_blockN ?_ | refine q_blockR ?_ | refine aw_exit ?_ | refine q_exit ?_ | refine q_blockE ?_ | refine q_blockX de_ ?_ | refine fin_r rfl ?_ | (refine w_req rfl ?_ ?_; · exact rq_F2) | (refine w_lk rfl ?_; refine ⟨_, lk_F2, ?_⟩) | refine w_look (l' := _ :: _) rfl rfl ?_ | refine w_look (l' := []) rfl rfl ?_ | refine w_req rfl ?_ ?_ | refine w_pick rfl (fun b => ?_) | refine l_call rfl (c1) ?_ | refine l_call rfl (c2) ?_ | refine l_call rfl (c3) ?_ | refine l_call rfl (c4) ?_ | refine l_call rfl (c5) ?_ | refine aw_drw kr_ ?_ | refine d_cons ?_ | refine l_ok rfl ?_ | refine d_nil kr_ ?_ | refine d_y rfl ka ?_ | refine d_nT rfl ka ?_ | refine d_nF rfl ka ?_ | refine d_nU rfl ?_ | refine l_pT rfl ka rfl ?_ | refine l_pF rfl ka rfl ?_ | refine d_gT rfl (fun h => ?_) (fun h => ?_) | refine d_gF rfl (fun h => ?_) (fun h => ?_) | (refine l_req rfl ?_ ?_; · exact rq_F2) | (refine l_lk rfl ?_; refine ⟨_, lk_F2, ?_⟩) | refine l_look (l' := _ :: _) rfl rfl ?_ | refine l_look (l' := []) rfl rfl ?_ | refine l_req rfl ?_ ?_)
          rfl
        | some k =>
          rw [hx] at c4
          have c4 : AGood e.P 87 [.ro (.row 4 s.u.length (uT s.u)), .ro (.str id)] (.int .i64 (k : Int)) [.keep, .keep] := c4
          have k0 : decide ((k : Int) < 0) = false := by simp
          have hkl := idx_lt hx
          have hdi := getD_all f.ud hkl (z := zeroU)
          have g1 : 0 ≤ (k : Int) ∧ (k : Int) < (s.u.length : Int) := by omega
          cases hf : (s.u.getD k zeroU).f with
          | true =>
            have hf' : (s.u.getD (k : Int).toNat zeroU).f = true := hf
            refine ⟨s, 4, g, ?_⟩
            refine agood eok (fn := Try.f147) kr_ de_ rfl kr_ ok_F2 ok_F2 ?_
            repeat' (first | refine o_cons ?_ | refine w_ok rfl ?_ | refine w_call rfl (c1) ?_ | refine w_call rfl (c2) ?_ | refine w_call rfl (c3) ?_ | refine w_call rfl (c4) ?_ | refine w_call rfl (c5) ?_ | refine o_nil ?_ | refine q_then ?_ | refine sq ?_ | refine aw_seq ?_ | refine aw_reg ?_ | refine w_pT rfl ka rfl ?_ | refine w_pF rfl ka rfl ?_ | refine o_y rfl ka ?_ | refine o_nT rfl ka ?_ | refine o_nF rfl ka ?_ | refine o_nU rfl ?_ | refine aw_cT rfl ka ?_ | refine aw_cF rfl ka ?_ | refine o_gT rfl (fun h => ?_) (fun h => ?_) | refine o_gF rfl (fun h => ?_) (fun h => ?_) | refine aw_cond rfl (fun h => ?_) (fun h => ?_) | refine aw_block ?_ | refine aw_skip ?_ | refine aw_ret ?_ | refine q_ret ?_ | refine q_blockN ?_ | refine q_blockR ?_ | refine aw_exit ?_ | refine q_exit ?_ | refine q_blockE ?_ | refine q_blockX de_ ?_ | refine fin_r rfl ?_ | (refine w_req rfl ?_ ?_; · exact rq_F2) | (refine w_lk rfl ?_; refine ⟨_, lk_F2, ?_⟩) | refine w_look (l' := _ :: _) rfl rfl ?_ | refine w_look (l' := []) rfl rfl ?_ | refine w_req rfl ?_ ?_ | refine w_pick rfl (fun b => ?_) | refine l_call rfl (c1) ?_ | refine l_call rfl (c2) ?_ | refine l_call rfl (c3) ?_ | refine l_call rfl (c4) ?_ | refine l_call rfl (c5) ?_ | refine aw_drw kr_ ?_ | refine d_cons ?_ | refine l_ok rfl ?_ | refine d_nil kr_ ?_ | refine d_y rfl ka ?_ | refine d_nT rfl ka ?_ | refine d_nF rfl ka ?_ | refine d_nU rfl ?_ | refine l_pT rfl ka rfl ?_ | refine l_pF rfl ka rfl ?_ | refine d_gT rfl (fun h => ?_) (fun h => ?_) | refine d_gF rfl (fun h => ?_) (fun h => ?_) | (refine l_req rfl ?_ ?_; · exact rq_F2) | (refine l_lk rfl ?_; refine ⟨_, lk_F2, ?_⟩) | refine l_look (l' := _ :: _) rfl rfl ?_ | refine l_look (l' := []) rfl rfl ?_ | refine l_req rfl ?_ ?_)
            rfl
          | false =>
            have hf' : (s.u.getD (k : Int).toNat zeroU).f = false := hf
            by_cases ho : off = ((s.u.getD k zeroU).d.length : Int)
            · have k1 : (off != ((s.u.getD (k : Int).toNat zeroU).d.length : Int)) = false := by rw [Int.toNat_natCast]; simpa using ho
              have w1 : IntKind.i64.wrap (off + (data.length : Int)) = off + data.length := wrap64 (by omega) (by omega)
              by_cases hq : off + (data.length : Int) > (s.u.getD k zeroU).w
              · have k2 : decide (IntKind.i64.wrap (off + (data.length : Int)) > (s.u.getD (k : Int).toNat zeroU).w) = true := by rw [w1]; exact decide_eq_true hq
                refine ⟨s, 4, g, ?_⟩
                refine agood eok (fn := Try.f147) kr_ de_ rfl kr_ ok_F2 ok_F2 ?_
                repeat' (first | refine o_cons ?_ | refine w_ok rfl ?_ | refine w_call rfl (c1) ?_ | refine w_call rfl (c2) ?_ | refine w_call rfl (c3) ?_ | refine w_call rfl (c4) ?_ | refine w_call rfl (c5) ?_ | refine o_nil ?_ | refine q_then ?_ | refine sq ?_ | refine aw_seq ?_ | refine aw_reg ?_ | refine w_pT rfl ka rfl ?_ | refine w_pF rfl ka rfl ?_ | refine o_y rfl ka ?_ | refine o_nT rfl ka ?_ | refine o_nF rfl ka ?_ | refine o_nU rfl ?_ | refine aw_cT rfl ka ?_ | refine aw_cF rfl ka ?_ | refine o_gT rfl (fun h => ?_) (fun h => ?_) | refine o_gF rfl (fun h => ?_) (fun h => ?_) | refine aw_cond rfl (fun h => ?_) (fun h => ?_) | refine aw_block ?_ | refine aw_skip ?_ | refine aw_ret ?_ | refine q_ret ?_ | refine q_blockN ?_ | refine q_blockR ?_ | refine aw_exit ?_ | refine q_exit ?_ | refine q_blockE ?_ | refine q_blockX de_ ?_ | refine fin_r rfl ?_ | (refine w_req rfl ?_ ?_; · exact rq_F2) | (refine w_lk rfl ?_; refine ⟨_, lk_F2, ?_⟩) | refine w_look (l' := _ :: _) rfl rfl ?_ | refine w_look (l' := []) rfl rfl ?_ | refine w_req rfl ?_ ?_ | refine w_pick rfl (fun b => ?_) | refine l_call rfl (c1) ?_ | refine l_call rfl (c2) ?_ | refine l_call rfl (c3) ?_ | refine l_call rfl (c4) ?_ | refine l_call rfl (c5) ?_ | refine aw_drw kr_ ?_ | refine d_cons ?_ | refine l_ok rfl ?_ | refine d_nil kr_ ?_ | refine d_y rfl ka ?_ | refine d_nT rfl ka ?_ | refine d_nF rfl ka ?_ | refine d_nU rfl ?_ | refine l_pT rfl ka rfl ?_ | refine l_pF rfl ka rfl ?_ | refine d_gT rfl (fun h => ?_) (fun h => ?_) | refine d_gF rfl (fun h => ?_) (fun h => ?_) | (refine l_req rfl ?_ ?_; · exact rq_F2) | (refine l_lk rfl ?_; refine ⟨_, lk_F2, ?_⟩) | refine l_look (l' := _ :: _) rfl rfl ?_ | refine l_look (l' := []) rfl rfl ?_ | refine l_req rfl ?_ ?_)
                rfl
              · have k2 : decide (IntKind.i64.wrap (off + (data.length : Int)) > (s.u.getD (k : Int).toNat zeroU).w) = false := by rw [w1]; exact decide_eq_false hq
                have c6 := leftS s h (by omega)
                have w2 : IntKind.i64.wrap ((IntKind.i64.wrap (IntKind.i64.wrap ((data.length : Int) + 24) - 1)).tdiv 24) = (((data.length + 23) / 24 : Nat) : Int) := by
                  rw [wrap64 (n := (data.length : Int) + 24) (by omega) (by omega), wrap64 (n := (data.length : Int) + 24 - 1) (by omega) (by omega), Int.tdiv_eq_ediv_of_nonneg (by omega), wrap64 (by omega) (by omega)]
                  omega
                by_cases hq2 : (s.a.length : Int) - s.n < (((data.length + 23) / 24 : Nat) : Int)
                · have k3 : decide ((s.a.length : Int) - s.n < IntKind.i64.wrap ((IntKind.i64.wrap (IntKind.i64.wrap ((data.length : Int) + 24) - 1)).tdiv 24)) = true := by rw [w2]; exact decide_eq_true hq2
                  refine ⟨s, 5, g, ?_⟩
                  refine agood eok (fn := Try.f147) kr_ de_ rfl kr_ ok_F2 ok_F2 ?_
                  repeat' (first | refine o_cons ?_ | refine w_ok rfl ?_ | refine w_call rfl (c1) ?_ | refine w_call rfl (c2) ?_ | refine w_call rfl (c3) ?_ | refine w_call rfl (c4) ?_ | refine w_call rfl (c5) ?_ | refine w_call rfl (c6) ?_ | refine o_nil ?_ | refine q_then ?_ | refine sq ?_ | refine aw_seq ?_ | refine aw_reg ?_ | refine w_pT rfl ka rfl ?_ | refine w_pF rfl ka rfl ?_ | refine o_y rfl ka ?_ | refine o_nT rfl ka ?_ | refine o_nF rfl ka ?_ | refine o_nU rfl ?_ | refine aw_cT rfl ka ?_ | refine aw_cF rfl ka ?_ | refine o_gT rfl (fun h => ?_) (fun h => ?_) | refine o_gF rfl (fun h => ?_) (fun h => ?_) | refine aw_cond rfl (fun h => ?_) (fun h => ?_) | refine aw_block ?_ | refine aw_skip ?_ | refine aw_ret ?_ | refine q_ret ?_ | refine q_blockN ?_ | refine q_blockR ?_ | refine aw_exit ?_ | refine q_exit ?_ | refine q_blockE ?_ | refine q_blockX de_ ?_ | refine fin_r rfl ?_ | (refine w_req rfl ?_ ?_; · exact rq_F2) | (refine w_lk rfl ?_; refine ⟨_, lk_F2, ?_⟩) | refine w_look (l' := _ :: _) rfl rfl ?_ | refine w_look (l' := []) rfl rfl ?_ | refine w_req rfl ?_ ?_ | refine w_pick rfl (fun b => ?_) | refine l_call rfl (c1) ?_ | refine l_call rfl (c2) ?_ | refine l_call rfl (c3) ?_ | refine l_call rfl (c4) ?_ | refine l_call rfl (c5) ?_ | refine l_call rfl (c6) ?_ | refine aw_drw kr_ ?_ | refine d_cons ?_ | refine l_ok rfl ?_ | refine d_nil kr_ ?_ | refine d_y rfl ka ?_ | refine d_nT rfl ka ?_ | refine d_nF rfl ka ?_ | refine d_nU rfl ?_ | refine l_pT rfl ka rfl ?_ | refine l_pF rfl ka rfl ?_ | refine d_gT rfl (fun h => ?_) (fun h => ?_) | refine d_gF rfl (fun h => ?_) (fun h => ?_) | (refine l_req rfl ?_ ?_; · exact rq_F2) | (refine l_lk rfl ?_; refine ⟨_, lk_F2, ?_⟩) | refine l_look (l' := _ :: _) rfl rfl ?_ | refine l_look (l' := []) rfl rfl ?_ | refine l_req rfl ?_ ?_)
                  rfl
                · have k3 : decide ((s.a.length : Int) - s.n < IntKind.i64.wrap ((IntKind.i64.wrap (IntKind.i64.wrap ((data.length : Int) + 24) - 1)).tdiv 24)) = false := by rw [w2]; exact decide_eq_false hq2
                  have p0 : Pt s s id k off (s.u.getD k zeroU).w data.length 0 := ⟨g, rfl, rfl, by simp, hx, hf, rfl, by rw [← ho]; simp, f.ud⟩
                  have hgo := pGo_ok p0 hl4.2 (by omega) (by omega)
                  refine ⟨pGo id k off data s ((data.length + 23) / 24), 0, (hgo _ (by omega)).g, ?_⟩
                  refine agood eok (fn := Try.f147) kr_ de_ rfl kr_ ok_F2 ok_F2 ?_
                  repeat' (first | refine o_cons ?_ | refine w_ok rfl ?_ | refine w_call rfl (c1) ?_ | refine w_call rfl (c2) ?_ | refine w_call rfl (c3) ?_ | refine w_call rfl (c4) ?_ | refine w_call rfl (c5) ?_ | refine w_call rfl (c6) ?_ | refine o_nil ?_ | refine q_then ?_ | refine sq ?_ | refine aw_seq ?_ | refine aw_reg ?_ | refine w_pT rfl ka rfl ?_ | refine w_pF rfl ka rfl ?_ | refine o_y rfl ka ?_ | refine o_nT rfl ka ?_ | refine o_nF rfl ka ?_ | refine o_nU rfl ?_ | refine aw_cT rfl ka ?_ | refine aw_cF rfl ka ?_ | refine o_gT rfl (fun h => ?_) (fun h => ?_) | refine o_gF rfl (fun h => ?_) (fun h => ?_) | refine aw_cond rfl (fun h => ?_) (fun h => ?_) | refine aw_block ?_ | refine aw_skip ?_ | refine aw_ret ?_ | refine q_ret ?_ | refine q_blockN ?_ | refine q_blockR ?_ | refine aw_exit ?_ | refine q_exit ?_ | refine q_blockE ?_ | refine q_blockX de_ ?_ | refine fin_r rfl ?_ | (refine w_req rfl ?_ ?_; · exact rq_F2) | (refine w_lk rfl ?_; refine ⟨_, lk_F2, ?_⟩) | refine w_look (l' := _ :: _) rfl rfl ?_ | refine w_look (l' := []) rfl rfl ?_ | refine w_req rfl ?_ ?_ | refine w_pick rfl (fun b => ?_) | refine l_call rfl (c1) ?_ | refine l_call rfl (c2) ?_ | refine l_call rfl (c3) ?_ | refine l_call rfl (c4) ?_ | refine l_call rfl (c5) ?_ | refine l_call rfl (c6) ?_ | refine aw_drw kr_ ?_ | refine d_cons ?_ | refine l_ok rfl ?_ | refine d_nil kr_ ?_ | refine d_y rfl ka ?_ | refine d_nT rfl ka ?_ | refine d_nF rfl ka ?_ | refine d_nU rfl ?_ | refine l_pT rfl ka rfl ?_ | refine l_pF rfl ka rfl ?_ | refine d_gT rfl (fun h => ?_) (fun h => ?_) | refine d_gF rfl (fun h => ?_) (fun h => ?_) | (refine l_req rfl ?_ ?_; · exact rq_F2) | (refine l_lk rfl ?_; refine ⟨_, lk_F2, ?_⟩) | refine l_look (l' := _ :: _) rfl rfl ?_ | refine l_look (l' := []) rfl rfl ?_ | refine l_req rfl ?_ ?_)
                  refine loop1 (fun i : Nat => ⟨tbl [(1, .str id), (2, .int .i64 off), (3, .ro none 1 data.length (bT data)), (8, .ptr 9000 0 0 0), (10, .ptr 11000 0 0 0), (13, .int .i64 ((24 * i : Nat) : Int))], mbl [(9000, .box 0 56 [.nils, .nils, .int .i64 0, .int .i64 0, .nils]), (11000, .box 0 56 [.own 17000 0, .own 17001 0, .int .i64 (pGo id k off data s i).e, .int .i64 (pGo id k off data s i).n, .own 17002 0]), (17000, .row 0 0 1 (pGo id k off data s i).a.length (sT (pGo id k off data s i).a)), (17001, .row 0 0 1 (pGo id k off data s i).b.length (sT (pGo id k off data s i).b)), (17002, .row 0 0 4 (pGo id k off data s i).u.length (uT (pGo id k off data s i).u))], [.agg [.ro (some 0) 1 s.a.length (sT s.a), .ro (some 1) 1 s.b.length (sT s.b), .int .i64 s.e, .int .i64 s.n, .ro (some 2) 4 s.u.length (uT s.u)], .str id, .int .i64 off, .ro (some 3) 1 data.length (bT data)]⟩) (fun i => 24 * i < data.length + 24) (fun i => data.length + 24 - 24 * i) 0 (by omega) ?_ ?_
                  · (refine le_of [(9000, 9000), (11000, 11000), (17000, 17000), (17001, 17001), (17002, 17002)] ?_; repeat' (first | exact trivial | refine an ?_ ?_ | with_reducible rfl | exact bt rfl | exact Or.inl rfl | exact Or.inr rfl | exact Eq.refl _))
                  intro i hi24
                  have p := hgo i hi24
                  have hpe : pGo id k off data s (i + 1) = pStep id k off data (pGo id k off data s i) i := rfl
                  rcases Nat.lt_or_ge (24 * i) data.length with hil | hil
                  · have hc : decide (((24 * i : Nat) : Int) < (data.length : Int)) = true := decide_eq_true (by omega)
                    generalize pGo id k off data s i = t at *
                    have hpl := part_len data i
                    have q1 := p.al
                    have q2 := p.n
                    have q3 := p.e
                    have q4 := p.g.u
                    have qe := f.e
                    have w3 : IntKind.i64.wrap (((24 * i : Nat) : Int) + 24) = ((24 * i + 24 : Nat) : Int) := by rw [wrap64 (by omega) (by omega)]; omega
                    have w4 : IntKind.i64.wrap (off + ((24 * i : Nat) : Int)) = off + ((24 * i : Nat) : Int) := wrap64 (by omega) (by omega)
                    have key : ∀ c : Nat, c = (part data i).length → AGood e.P 114 [.box 56 (stOs t), (⟨0, 0, 2, id, IntKind.i64.wrap (off + ((24 * i : Nat) : Int)), part data i⟩ : Rc).pa c] (.tup []) [.box (stTs (pStep id k off data t i)), keeps] := fun c hc => by
                      have hm9 : 0 ≤ off + ((24 * i : Nat) : Int) ∧ off + ((24 * i : Nat) : Int) ≤ 1000000000 := by omega
                      have hd9 : 1 ≤ (part data i).length ∧ (part data i).length ≤ 24 := by omega
                      rw [w4]
                      exact writeS t ⟨0, 0, 2, id, off + ((24 * i : Nat) : Int), part data i⟩ hc p.g.sm (by omega) q4 hid (by simp only; omega) (recOk_of (by omega) (by omega) hi (.inr (.inl ⟨rfl, hm9, hd9⟩))) (pt_one p hil (by omega) hpl)
                    by_cases hto : 24 * i + 24 > data.length
                    · have k4 : decide (IntKind.i64.wrap (((24 * i : Nat) : Int) + 24) > (data.length : Int)) = true := by rw [w3]; exact decide_eq_true (by omega)
                      have e1 : ((bT data).drop (((24 * i : Nat) : Int).toNat * 1)).take (((data.length : Int).toNat - ((24 * i : Nat) : Int).toNat) * 1) = bT (part data i) := by
                        rw [bT_cut]
                        unfold part
                        rw [Int.toNat_natCast, Int.toNat_natCast, List.take_of_length_le (by rw [List.length_drop]; omega), List.take_of_length_le (by rw [List.length_drop]; omega)]
                      have g3 : 0 ≤ ((24 * i : Nat) : Int) ∧ ((24 * i : Nat) : Int) ≤ (data.length : Int) ∧ (data.length : Int) ≤ (data.length : Int) := by omega
                      have g4 : (0 + ((data.length : Int).toNat - ((24 * i : Nat) : Int).toNat)) * 1 ≤ 140737488355328 ∧ 0 + ((data.length : Int).toNat - ((24 * i : Nat) : Int).toNat) ≤ 140737488355328 := by omega
                      have c7 := key (0 + ((data.length : Int).toNat - ((24 * i : Nat) : Int).toNat)) (by omega)
                      repeat' (first | refine o_cons ?_ | refine w_ok rfl ?_ | refine w_call rfl (c7) ?_ | refine o_nil ?_ | refine q_then ?_ | refine sq ?_ | refine aw_seq ?_ | refine aw_reg ?_ | refine w_pT rfl ka rfl ?_ | refine w_pF rfl ka rfl ?_ | refine o_y rfl ka ?_ | refine o_nT rfl ka ?_ | refine o_nF rfl ka ?_ | refine o_nU rfl ?_ | refine aw_cT rfl ka ?_ | refine aw_cF rfl ka ?_ | refine o_gT rfl (fun h => ?_) (fun h => ?_) | refine o_gF rfl (fun h => ?_) (fun h => ?_) | refine aw_cond rfl (fun h => ?_) (fun h => ?_) | refine aw_block ?_ | refine aw_skip ?_ | refine aw_ret ?_ | refine q_ret ?_ | refine q_blockN ?_ | refine q_blockR ?_ | refine aw_exit ?_ | refine q_exit ?_ | refine q_blockE ?_ | refine q_blockX de_ ?_ | refine fin_r rfl ?_ | (refine w_req rfl ?_ ?_; · exact rq_F2) | (refine w_lk rfl ?_; refine ⟨_, lk_F2, ?_⟩) | refine w_look (l' := _ :: _) rfl rfl ?_ | refine w_look (l' := []) rfl rfl ?_ | refine w_req rfl ?_ ?_ | refine w_pick rfl (fun b => ?_) | refine l_call rfl (c7) ?_ | refine aw_drw kr_ ?_ | refine d_cons ?_ | refine l_ok rfl ?_ | refine d_nil kr_ ?_ | refine d_y rfl ka ?_ | refine d_nT rfl ka ?_ | refine d_nF rfl ka ?_ | refine d_nU rfl ?_ | refine l_pT rfl ka rfl ?_ | refine l_pF rfl ka rfl ?_ | refine d_gT rfl (fun h => ?_) (fun h => ?_) | refine d_gF rfl (fun h => ?_) (fun h => ?_) | (refine l_req rfl ?_ ?_; · exact rq_F2) | (refine l_lk rfl ?_; refine ⟨_, lk_F2, ?_⟩) | refine l_look (l' := _ :: _) rfl rfl ?_ | refine l_look (l' := []) rfl rfl ?_ | refine l_req rfl ?_ ?_)
                      refine ⟨i + 1, ⟨by omega, by omega⟩, ?_⟩
                      rw [hpe]
                      (refine le_of [(9000, 9000), (11000, 11000), (17000, 17000), (17001, 17001), (17002, 17002)] ?_; repeat' (first | exact trivial | refine an ?_ ?_ | with_reducible rfl | exact bt rfl | exact Or.inl rfl | exact Or.inr rfl | exact Eq.refl _))
                      all_goals (first | omega | (simp; done) | (rw [wrap64] <;> omega) | (simp; omega))
                    · have k4 : decide (IntKind.i64.wrap (((24 * i : Nat) : Int) + 24) > (data.length : Int)) = false := by rw [w3]; exact decide_eq_false (by omega)
                      have e1 : ((bT data).drop (((24 * i : Nat) : Int).toNat * 1)).take (((IntKind.i64.wrap (((24 * i : Nat) : Int) + 24)).toNat - ((24 * i : Nat) : Int).toNat) * 1) = bT (part data i) := by
                        rw [bT_cut, w3]
                        unfold part
                        rw [Int.toNat_natCast, Int.toNat_natCast, show 24 * i + 24 - 24 * i = 24 by omega]
                      have g3 : 0 ≤ ((24 * i : Nat) : Int) ∧ ((24 * i : Nat) : Int) ≤ IntKind.i64.wrap (((24 * i : Nat) : Int) + 24) ∧ IntKind.i64.wrap (((24 * i : Nat) : Int) + 24) ≤ (data.length : Int) := by rw [w3]; omega
                      have g4 : (0 + ((IntKind.i64.wrap (((24 * i : Nat) : Int) + 24)).toNat - ((24 * i : Nat) : Int).toNat)) * 1 ≤ 140737488355328 ∧ 0 + ((IntKind.i64.wrap (((24 * i : Nat) : Int) + 24)).toNat - ((24 * i : Nat) : Int).toNat) ≤ 140737488355328 := by rw [w3]; omega
                      have c7 := key (0 + ((IntKind.i64.wrap (((24 * i : Nat) : Int) + 24)).toNat - ((24 * i : Nat) : Int).toNat)) (by rw [w3]; omega)
                      repeat' (first | refine o_cons ?_ | refine w_ok rfl ?_ | refine w_call rfl (c7) ?_ | refine o_nil ?_ | refine q_then ?_ | refine sq ?_ | refine aw_seq ?_ | refine aw_reg ?_ | refine w_pT rfl ka rfl ?_ | refine w_pF rfl ka rfl ?_ | refine o_y rfl ka ?_ | refine o_nT rfl ka ?_ | refine o_nF rfl ka ?_ | refine o_nU rfl ?_ | refine aw_cT rfl ka ?_ | refine aw_cF rfl ka ?_ | refine o_gT rfl (fun h => ?_) (fun h => ?_) | refine o_gF rfl (fun h => ?_) (fun h => ?_) | refine aw_cond rfl (fun h => ?_) (fun h => ?_) | refine aw_block ?_ | refine aw_skip ?_ | refine aw_ret ?_ | refine q_ret ?_ | refine q_blockN ?_ | refine q_blockR ?_ | refine aw_exit ?_ | refine q_exit ?_ | refine q_blockE ?_ | refine q_blockX de_ ?_ | refine fin_r rfl ?_ | (refine w_req rfl ?_ ?_; · exact rq_F2) | (refine w_lk rfl ?_; refine ⟨_, lk_F2, ?_⟩) | refine w_look (l' := _ :: _) rfl rfl ?_ | refine w_look (l' := []) rfl rfl ?_ | refine w_req rfl ?_ ?_ | refine w_pick rfl (fun b => ?_) | refine l_call rfl (c7) ?_ | refine aw_drw kr_ ?_ | refine d_cons ?_ | refine l_ok rfl ?_ | refine d_nil kr_ ?_ | refine d_y rfl ka ?_ | refine d_nT rfl ka ?_ | refine d_nF rfl ka ?_ | refine d_nU rfl ?_ | refine l_pT rfl ka rfl ?_ | refine l_pF rfl ka rfl ?_ | refine d_gT rfl (fun h => ?_) (fun h => ?_) | refine d_gF rfl (fun h => ?_) (fun h => ?_) | (refine l_req rfl ?_ ?_; · exact rq_F2) | (refine l_lk rfl ?_; refine ⟨_, lk_F2, ?_⟩) | refine l_look (l' := _ :: _) rfl rfl ?_ | refine l_look (l' := []) rfl rfl ?_ | refine l_req rfl ?_ ?_)
                      refine ⟨i + 1, ⟨by omega, by omega⟩, ?_⟩
                      rw [hpe]
                      (refine le_of [(9000, 9000), (11000, 11000), (17000, 17000), (17001, 17001), (17002, 17002)] ?_; repeat' (first | exact trivial | refine an ?_ ?_ | with_reducible rfl | exact bt rfl | exact Or.inl rfl | exact Or.inr rfl | exact Eq.refl _))
                      all_goals (first | omega | (simp; done) | (rw [wrap64] <;> omega) | (simp; omega))
                  · have hc : decide (((24 * i : Nat) : Int) < (data.length : Int)) = false := decide_eq_false (by omega)
                    have hie : i = (data.length + 23) / 24 := by omega
                    rw [← hie]
                    repeat' (first | refine o_cons ?_ | refine w_ok rfl ?_ | refine o_nil ?_ | refine q_then ?_ | refine sq ?_ | refine aw_seq ?_ | refine aw_reg ?_ | refine w_pT rfl ka rfl ?_ | refine w_pF rfl ka rfl ?_ | refine o_y rfl ka ?_ | refine o_nT rfl ka ?_ | refine o_nF rfl ka ?_ | refine o_nU rfl ?_ | refine aw_cT rfl ka ?_ | refine aw_cF rfl ka ?_ | refine o_gT rfl (fun h => ?_) (fun h => ?_) | refine o_gF rfl (fun h => ?_) (fun h => ?_) | refine aw_cond rfl (fun h => ?_) (fun h => ?_) | refine aw_block ?_ | refine aw_skip ?_ | refine aw_ret ?_ | refine q_ret ?_ | refine q_blockN ?_ | refine q_blockR ?_ | refine aw_exit ?_ | refine q_exit ?_ | refine q_blockE ?_ | refine q_blockX de_ ?_ | refine fin_r rfl ?_ | (refine w_req rfl ?_ ?_; · exact rq_F2) | (refine w_lk rfl ?_; refine ⟨_, lk_F2, ?_⟩) | refine w_look (l' := _ :: _) rfl rfl ?_ | refine w_look (l' := []) rfl rfl ?_ | refine w_req rfl ?_ ?_ | refine w_pick rfl (fun b => ?_))
                    rfl
            · have k1 : (off != ((s.u.getD (k : Int).toNat zeroU).d.length : Int)) = true := by rw [Int.toNat_natCast]; simpa using ho
              refine ⟨s, 4, g, ?_⟩
              refine agood eok (fn := Try.f147) kr_ de_ rfl kr_ ok_F2 ok_F2 ?_
              repeat' (first | refine o_cons ?_ | refine w_ok rfl ?_ | refine w_call rfl (c1) ?_ | refine w_call rfl (c2) ?_ | refine w_call rfl (c3) ?_ | refine w_call rfl (c4) ?_ | refine w_call rfl (c5) ?_ | refine o_nil ?_ | refine q_then ?_ | refine sq ?_ | refine aw_seq ?_ | refine aw_reg ?_ | refine w_pT rfl ka rfl ?_ | refine w_pF rfl ka rfl ?_ | refine o_y rfl ka ?_ | refine o_nT rfl ka ?_ | refine o_nF rfl ka ?_ | refine o_nU rfl ?_ | refine aw_cT rfl ka ?_ | refine aw_cF rfl ka ?_ | refine o_gT rfl (fun h => ?_) (fun h => ?_) | refine o_gF rfl (fun h => ?_) (fun h => ?_) | refine aw_cond rfl (fun h => ?_) (fun h => ?_) | refine aw_block ?_ | refine aw_skip ?_ | refine aw_ret ?_ | refine q_ret ?_ | refine q_blockN ?_ | refine q_blockR ?_ | refine aw_exit ?_ | refine q_exit ?_ | refine q_blockE ?_ | refine q_blockX de_ ?_ | refine fin_r rfl ?_ | (refine w_req rfl ?_ ?_; · exact rq_F2) | (refine w_lk rfl ?_; refine ⟨_, lk_F2, ?_⟩) | refine w_look (l' := _ :: _) rfl rfl ?_ | refine w_look (l' := []) rfl rfl ?_ | refine w_req rfl ?_ ?_ | refine w_pick rfl (fun b => ?_) | refine l_call rfl (c1) ?_ | refine l_call rfl (c2) ?_ | refine l_call rfl (c3) ?_ | refine l_call rfl (c4) ?_ | refine l_call rfl (c5) ?_ | refine aw_drw kr_ ?_ | refine d_cons ?_ | refine l_ok rfl ?_ | refine d_nil kr_ ?_ | refine d_y rfl ka ?_ | refine d_nT rfl ka ?_ | refine d_nF rfl ka ?_ | refine d_nU rfl ?_ | refine l_pT rfl ka rfl ?_ | refine l_pF rfl ka rfl ?_ | refine d_gT rfl (fun h => ?_) (fun h => ?_) | refine d_gF rfl (fun h => ?_) (fun h => ?_) | (refine l_req rfl ?_ ?_; · exact rq_F2) | (refine l_lk rfl ?_; refine ⟨_, lk_F2, ?_⟩) | refine l_look (l' := _ :: _) rfl rfl ?_ | refine l_look (l' := []) rfl rfl ?_ | refine l_req rfl ?_ ?_)
              rfl
end Go.Proofs.Ytbkpmljdmlhmhaa
