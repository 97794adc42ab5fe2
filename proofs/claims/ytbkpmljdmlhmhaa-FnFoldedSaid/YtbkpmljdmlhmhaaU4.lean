import Derived.Test.YtbkpmljdmlhmhaaU3
import Derived.Test.YtbkpmljdmlhmhaaX5
import Derived.Test.YtbkpmljdmlhmhaaOP
namespace Go.Proofs.Ytbkpmljdmlhmhaa
open Go Go.AM Ty
set_option maxRecDepth 100000
set_option maxHeartbeats 4000000
set_option linter.unusedVariables false
set_option linter.unusedSimpArgs false
attribute [local irreducible] aw aops aopsD wpo wpoL condW guardW thenQ blockQ finQ Le AGood
theorem rq_U4 {p : Prop} (h : p := by first | assumption | exact uT_plain _ | exact rq_) : p := h
theorem lk_U4 {p : Prop} (h : p := by first | exact bT_app _ _ | exact uT_el side_ | exact lk_) : p := h
theorem ok_U4 {p : Prop} (h : p := by first | (simp [Tr.okR, Tr.okRL, Tr.plainL, Tr.plain, cells1, Tr.cellB, PB.okRL, PB.okR, bT_plain, sT_plain, oT_plain, nT_plain, uT_plain]; done) | exact ok_) : p := h
structure St where
  a : List ByteArray
  b : List ByteArray
  e : Int
  n : Int
  u : List Upp
abbrev stR (s : St) : PA := .agg [.ro (.row 1 s.a.length (sT s.a)), .ro (.row 1 s.b.length (sT s.b)), .ro (.int .i64 s.e), .ro (.int .i64 s.n), .ro (.row 4 s.u.length (uT s.u))]
abbrev stO (s : St) : PA := .agg [.own (.row 1 s.a.length (sT s.a)), .own (.row 1 s.b.length (sT s.b)), .ro (.int .i64 s.e), .ro (.int .i64 s.n), .own (.row 4 s.u.length (uT s.u))]
abbrev stT (s : St) : Tr := .agg [.row 1 s.a.length (sT s.a), .row 1 s.b.length (sT s.b), .int .i64 s.e, .int .i64 s.n, .row 4 s.u.length (uT s.u)]
abbrev keep5 : PB := .agg [.keep, .keep, .keep, .keep, .keep]
/-- what is small enough -/
structure St.sm (s : St) : Prop where
  a : s.a.length ≤ 1048576
  b : s.b.length ≤ 1048576
  u : s.u.length ≤ 1048576
  d : ∀ x ∈ s.u, x.d.length ≤ 1048576
theorem eqStore (s : St) (h : s.sm) : AGood e.P 37 [stR s, stR s] (.bool true) [keep5, keep5] := by
  have ha := h.a
  have hb := h.b
  have hu := h.u
  have hd : ∀ x ∈ s.u, x.d.length ≤ 4294967296 := fun x hx => by have := h.d x hx; omega
  refine agood eok (fn := Try.f37) kr_ de_ rfl kr_ ok_U4 ok_U4 ?_
  repeat' (first | refine o_cons ?_ | refine w_ok rfl ?_ | refine w_call rfl (eqDisk s.a s.b rfl rfl rfl rfl (by omega) (by omega)) ?_ | refine w_call rfl (eqUpS s.u rfl rfl (by omega) hd) ?_ | refine o_nil ?_ | refine q_then ?_ | refine sq ?_ | refine aw_seq ?_ | refine aw_reg ?_ | refine w_pT rfl ka rfl ?_ | refine w_pF rfl ka rfl ?_ | refine o_y rfl ka ?_ | refine o_nT rfl ka ?_ | refine o_nF rfl ka ?_ | refine o_nU rfl ?_ | refine aw_cT rfl ka ?_ | refine aw_cF rfl ka ?_ | refine o_gT rfl (fun h => ?_) (fun h => ?_) | refine o_gF rfl (fun h => ?_) (fun h => ?_) | refine aw_cond rfl (fun h => ?_) (fun h => ?_) | refine aw_block ?_ | refine aw_skip ?_ | refine aw_ret ?_ | refine q_ret ?_ | refine q_blockN ?_ | refine q_blockR ?_ | refine aw_exit ?_ | refine q_exit ?_ | refine q_blockE ?_ | refine q_blockX de_ ?_ | refine fin_r rfl ?_ | (refine w_req rfl ?_ ?_; · exact rq_U4) | (refine w_lk rfl ?_; refine ⟨_, lk_U4, ?_⟩) | refine w_look (l' := _ :: _) rfl rfl ?_ | refine w_look (l' := []) rfl rfl ?_ | refine w_req rfl ?_ ?_ | refine w_pick rfl (fun b => ?_))
  all_goals first
    | rfl
    | simp at h
theorem toStore (s : St) (h : s.sm) : AGood e.P 34 [stR s] (stT s) [keep5] := by
  refine agood eok (fn := Try.f34) kr_ de_ rfl kr_ ok_U4 ok_U4 ?_
  repeat' (first | refine o_cons ?_ | refine w_ok rfl ?_ | refine w_call rfl (toDisk s.a s.b rfl rfl h.a h.b) ?_ | refine w_call rfl (toUpS s.u rfl h.u h.d) ?_ | refine o_nil ?_ | refine q_then ?_ | refine sq ?_ | refine aw_seq ?_ | refine aw_reg ?_ | refine w_pT rfl ka rfl ?_ | refine w_pF rfl ka rfl ?_ | refine o_y rfl ka ?_ | refine o_nT rfl ka ?_ | refine o_nF rfl ka ?_ | refine o_nU rfl ?_ | refine aw_cT rfl ka ?_ | refine aw_cF rfl ka ?_ | refine o_gT rfl (fun h => ?_) (fun h => ?_) | refine o_gF rfl (fun h => ?_) (fun h => ?_) | refine aw_cond rfl (fun h => ?_) (fun h => ?_) | refine aw_block ?_ | refine aw_skip ?_ | refine aw_ret ?_ | refine q_ret ?_ | refine q_blockN ?_ | refine q_blockR ?_ | refine aw_exit ?_ | refine q_exit ?_ | refine q_blockE ?_ | refine q_blockX de_ ?_ | refine fin_r rfl ?_ | (refine w_req rfl ?_ ?_; · exact rq_U4) | (refine w_lk rfl ?_; refine ⟨_, lk_U4, ?_⟩) | refine w_look (l' := _ :: _) rfl rfl ?_ | refine w_look (l' := []) rfl rfl ?_ | refine w_req rfl ?_ ?_ | refine w_pick rfl (fun b => ?_))
  rfl
def szSt (left : Int) (s : St) : Int := if szD left s.a s.b < 0 then -1 else szM szUpp (szD left s.a s.b) s.u
theorem szUpp_le (left : Int) (u : Upp) (h : -1 ≤ left) : szUpp left u ≤ left := by
  unfold szUpp
  split
  · exact h
  · exact Int.le_trans (szB_le _ _ (by omega)) (by omega)
theorem szD_le {left : Int} {a b : List ByteArray} (h : -1 ≤ left) : szD left a b ≤ left := by
  unfold szD
  split
  · exact h
  · split
    · exact h
    · have h1 := szM_le szS_le (l := a) h
      have h2 := szM_le szS_le (l := b) (left := szM szS left a) (by omega)
      omega
theorem szGo_neg {α : Type} {f : Int → α → Int} : ∀ {l : List α} {left : Int}, 0 ≤ left → szGo f left l < 0 → szGo f left l = -1
  | [], left, h0, h => by unfold szGo at h; omega
  | a :: l, left, h0, h => by
    unfold szGo at h ⊢
    split at h
    · rename_i h1; rw [if_pos h1]
    · rename_i h1; rw [if_neg h1]; exact szGo_neg (by omega) h
theorem szM_neg {α : Type} {f : Int → α → Int} {l : List α} {left : Int} (h : szM f left l < 0) : szM f left l = -1 := by
  unfold szM at h ⊢
  split at h
  · rename_i h1; rw [if_pos h1]
  · rename_i h1; rw [if_neg h1]; exact szGo_neg (by omega) h
theorem szStore (s : St) (left : Int) (h0 : 0 ≤ left ∧ left ≤ 1048576) (ha : bdL bdS s.a) (hb : bdL bdS s.b) (hu : bdL upB s.u) : AGood e.P 32 [stR s, .ro (.int .i64 left)] (.int .i64 (szSt left s)) [keep5, .keep] := by
  have c1 := szDisk s.a s.b rfl rfl left h0 ha hb
  have hle := szD_le (a := s.a) (b := s.b) (left := left) (by omega)
  unfold szSt
  generalize szD left s.a s.b = x at *
  rcases Int.lt_or_le x 0 with hneg | hpos
  · have k1 : decide (x < 0) = true := by simpa using hneg
    rw [if_pos hneg]
    refine agood eok (fn := Try.f32) kr_ de_ rfl kr_ ok_U4 ok_U4 ?_
    repeat' (first | refine o_cons ?_ | refine w_ok rfl ?_ | refine w_call rfl (c1) ?_ | refine o_nil ?_ | refine q_then ?_ | refine sq ?_ | refine aw_seq ?_ | refine aw_reg ?_ | refine w_pT rfl ka rfl ?_ | refine w_pF rfl ka rfl ?_ | refine o_y rfl ka ?_ | refine o_nT rfl ka ?_ | refine o_nF rfl ka ?_ | refine o_nU rfl ?_ | refine aw_cT rfl ka ?_ | refine aw_cF rfl ka ?_ | refine o_gT rfl (fun h => ?_) (fun h => ?_) | refine o_gF rfl (fun h => ?_) (fun h => ?_) | refine aw_cond rfl (fun h => ?_) (fun h => ?_) | refine aw_block ?_ | refine aw_skip ?_ | refine aw_ret ?_ | refine q_ret ?_ | refine q_blockN ?_ | refine q_blockR ?_ | refine aw_exit ?_ | refine q_exit ?_ | refine q_blockE ?_ | refine q_blockX de_ ?_ | refine fin_r rfl ?_ | (refine w_req rfl ?_ ?_; · exact rq_U4) | (refine w_lk rfl ?_; refine ⟨_, lk_U4, ?_⟩) | refine w_look (l' := _ :: _) rfl rfl ?_ | refine w_look (l' := []) rfl rfl ?_ | refine w_req rfl ?_ ?_ | refine w_pick rfl (fun b => ?_))
    rfl
  · have k1 : decide (x < 0) = false := by simpa using hpos
    rw [if_neg (by omega)]
    have c2 := szUpS s.u rfl x ⟨hpos, by omega⟩ hu.1 hu.2
    rcases Int.lt_or_le (szM szUpp x s.u) 0 with hn2 | hp2
    · have k2 : decide (szM szUpp x s.u < 0) = true := by simpa using hn2
      refine agood eok (fn := Try.f32) kr_ de_ rfl kr_ ok_U4 ok_U4 ?_
      repeat' (first | refine o_cons ?_ | refine w_ok rfl ?_ | refine w_call rfl (c1) ?_ | refine w_call rfl (c2) ?_ | refine o_nil ?_ | refine q_then ?_ | refine sq ?_ | refine aw_seq ?_ | refine aw_reg ?_ | refine w_pT rfl ka rfl ?_ | refine w_pF rfl ka rfl ?_ | refine o_y rfl ka ?_ | refine o_nT rfl ka ?_ | refine o_nF rfl ka ?_ | refine o_nU rfl ?_ | refine aw_cT rfl ka ?_ | refine aw_cF rfl ka ?_ | refine o_gT rfl (fun h => ?_) (fun h => ?_) | refine o_gF rfl (fun h => ?_) (fun h => ?_) | refine aw_cond rfl (fun h => ?_) (fun h => ?_) | refine aw_block ?_ | refine aw_skip ?_ | refine aw_ret ?_ | refine q_ret ?_ | refine q_blockN ?_ | refine q_blockR ?_ | refine aw_exit ?_ | refine q_exit ?_ | refine q_blockE ?_ | refine q_blockX de_ ?_ | refine fin_r rfl ?_ | (refine w_req rfl ?_ ?_; · exact rq_U4) | (refine w_lk rfl ?_; refine ⟨_, lk_U4, ?_⟩) | refine w_look (l' := _ :: _) rfl rfl ?_ | refine w_look (l' := []) rfl rfl ?_ | refine w_req rfl ?_ ?_ | refine w_pick rfl (fun b => ?_))
      rw [szM_neg hn2]
    · have k2 : decide (szM szUpp x s.u < 0) = false := by simpa using hp2
      refine agood eok (fn := Try.f32) kr_ de_ rfl kr_ ok_U4 ok_U4 ?_
      repeat' (first | refine o_cons ?_ | refine w_ok rfl ?_ | refine w_call rfl (c1) ?_ | refine w_call rfl (c2) ?_ | refine o_nil ?_ | refine q_then ?_ | refine sq ?_ | refine aw_seq ?_ | refine aw_reg ?_ | refine w_pT rfl ka rfl ?_ | refine w_pF rfl ka rfl ?_ | refine o_y rfl ka ?_ | refine o_nT rfl ka ?_ | refine o_nF rfl ka ?_ | refine o_nU rfl ?_ | refine aw_cT rfl ka ?_ | refine aw_cF rfl ka ?_ | refine o_gT rfl (fun h => ?_) (fun h => ?_) | refine o_gF rfl (fun h => ?_) (fun h => ?_) | refine aw_cond rfl (fun h => ?_) (fun h => ?_) | refine aw_block ?_ | refine aw_skip ?_ | refine aw_ret ?_ | refine q_ret ?_ | refine q_blockN ?_ | refine q_blockR ?_ | refine aw_exit ?_ | refine q_exit ?_ | refine q_blockE ?_ | refine q_blockX de_ ?_ | refine fin_r rfl ?_ | (refine w_req rfl ?_ ?_; · exact rq_U4) | (refine w_lk rfl ?_; refine ⟨_, lk_U4, ?_⟩) | refine w_look (l' := _ :: _) rfl rfl ?_ | refine w_look (l' := []) rfl rfl ?_ | refine w_req rfl ?_ ?_ | refine w_pick rfl (fun b => ?_))
      rfl
theorem szSt_ok {s : St} (h : 0 ≤ szSt 1048576 s) : s.sm ∧ (∀ x ∈ s.a, x.size ≤ 1048576) ∧ (∀ x ∈ s.b, x.size ≤ 1048576) ∧ (∀ x ∈ s.u, x.s.size ≤ 1048576) ∧ (s.u.map (fun x => x.s.size + x.d.length)).sum + s.u.length ≤ 1048576 := by
  unfold szSt at h
  split at h
  · omega
  · rename_i h1
    obtain ⟨⟨p1, p2⟩, p3, p4⟩ := szD_ok (a := s.a) (b := s.b) (left := 1048576) (by decide) (by omega)
    have hle := szD_le (a := s.a) (b := s.b) (left := 1048576) (by decide)
    have ht := szM_takes szUpp_takes (szD 1048576 s.a s.b) s.u (by omega) h
    simp only at ht
    have hm : ∀ x ∈ s.u, x.s.size + x.d.length ≤ 1048576 := fun x hx => by
      have := sum_le_of_mem (m := fun x : Upp => x.s.size + x.d.length) hx
      omega
    exact ⟨⟨by omega, by omega, by omega, fun x hx => by have := hm x hx; omega⟩, fun x hx => by have := p2 x hx; omega, fun x hx => by have := p4 x hx; omega, fun x hx => by have := hm x hx; omega, by omega⟩
def St.marked (k : Int) (s : St) : St := ⟨markS k s.a.length, markS (k + s.a.length) s.b.length, s.e, s.n, mkAll mkUp upM (k + s.a.length + s.b.length) s.u⟩
def kSt (k : Int) (s : St) : Int := kAll upM (k + s.a.length + s.b.length) s.u
theorem kSt_small {s : St} (h : s.sm) (hs : (s.u.map (fun x => x.s.size + x.d.length)).sum + s.u.length ≤ 1048576) : kSt 1 s ≤ 1000000000000 := by
  have : ∀ l : List Upp, (l.map upM).sum ≤ 3 * ((l.map (fun x => x.s.size + x.d.length)).sum + l.length) := by
    intro l
    induction l with
    | nil => simp
    | cons x l ih => simp only [List.map_cons, List.sum_cons, List.length_cons, upM] at *; omega
  have := this s.u
  have ha := h.a
  have hb := h.b
  unfold kSt kAll
  omega
theorem markStore (s : St) (h : s.sm) (hk : kSt 1 s ≤ 1000000000000) : AGood e.P 38 [stO s, .ro (.int .i64 1)] (.int .i64 (kSt 1 s)) [.agg [.own (.row 1 s.a.length (sT (s.marked 1).a)), .own (.row 1 s.b.length (sT (s.marked 1).b)), .keep, .keep, .own (.row 4 s.u.length (uT (s.marked 1).u))], .keep] := by
  have ha := h.a
  have hb := h.b
  have hu := h.u
  have hd : ∀ x ∈ s.u, x.d.length ≤ 4294967296 := fun x hx => by have := h.d x hx; omega
  refine agood eok (fn := Try.f38) kr_ de_ rfl kr_ ok_U4 ok_U4 ?_
  repeat' (first | refine o_cons ?_ | refine w_ok rfl ?_ | refine w_call rfl (markDisk s.a s.b rfl rfl 1 (by decide) ha hb) ?_ | refine w_call rfl (markUpS s.u rfl _ ⟨by omega, hk⟩ hu hd) ?_ | refine o_nil ?_ | refine q_then ?_ | refine sq ?_ | refine aw_seq ?_ | refine aw_reg ?_ | refine w_pT rfl ka rfl ?_ | refine w_pF rfl ka rfl ?_ | refine o_y rfl ka ?_ | refine o_nT rfl ka ?_ | refine o_nF rfl ka ?_ | refine o_nU rfl ?_ | refine aw_cT rfl ka ?_ | refine aw_cF rfl ka ?_ | refine o_gT rfl (fun h => ?_) (fun h => ?_) | refine o_gF rfl (fun h => ?_) (fun h => ?_) | refine aw_cond rfl (fun h => ?_) (fun h => ?_) | refine aw_block ?_ | refine aw_skip ?_ | refine aw_ret ?_ | refine q_ret ?_ | refine q_blockN ?_ | refine q_blockR ?_ | refine aw_exit ?_ | refine q_exit ?_ | refine q_blockE ?_ | refine q_blockX de_ ?_ | refine fin_r rfl ?_ | (refine w_req rfl ?_ ?_; · exact rq_U4) | (refine w_lk rfl ?_; refine ⟨_, lk_U4, ?_⟩) | refine w_look (l' := _ :: _) rfl rfl ?_ | refine w_look (l' := []) rfl rfl ?_ | refine w_req rfl ?_ ?_ | refine w_pick rfl (fun b => ?_))
  rfl
theorem heldStore (s : St) (h : s.sm) (hk : kSt 1 s ≤ 1000000000000) : AGood e.P 61 [.agg [.ro (.row 1 s.a.length (sT (s.marked 1).a)), .ro (.row 1 s.b.length (sT (s.marked 1).b)), .ro (.int .i64 s.e), .ro (.int .i64 s.n), .ro (.row 4 s.u.length (uT (s.marked 1).u))], .ro (.int .i64 1)] (.int .i64 (kSt 1 s)) [keep5, .keep] := by
  have ha := h.a
  have hb := h.b
  have hu := h.u
  have hd : ∀ x ∈ s.u, x.d.length ≤ 4294967296 := fun x hx => by have := h.d x hx; omega
  have k1 : decide ((1 : Int) + s.a.length + s.b.length < 0) = false := by simp; omega
  have k2 : decide (kAll upM (1 + s.a.length + s.b.length) s.u < 0) = false := by unfold kAll; simp; omega
  refine agood eok (fn := Try.f61) kr_ de_ rfl kr_ ok_U4 ok_U4 ?_
  repeat' (first | refine o_cons ?_ | refine w_ok rfl ?_ | refine w_call rfl (heldDisk 1 s.a.length s.b.length (by decide) ha hb) ?_ | refine w_call rfl (heldUpS s.u rfl (1 + s.a.length + s.b.length) ⟨by omega, hk⟩ hu hd) ?_ | refine o_nil ?_ | refine q_then ?_ | refine sq ?_ | refine aw_seq ?_ | refine aw_reg ?_ | refine w_pT rfl ka rfl ?_ | refine w_pF rfl ka rfl ?_ | refine o_y rfl ka ?_ | refine o_nT rfl ka ?_ | refine o_nF rfl ka ?_ | refine o_nU rfl ?_ | refine aw_cT rfl ka ?_ | refine aw_cF rfl ka ?_ | refine o_gT rfl (fun h => ?_) (fun h => ?_) | refine o_gF rfl (fun h => ?_) (fun h => ?_) | refine aw_cond rfl (fun h => ?_) (fun h => ?_) | refine aw_block ?_ | refine aw_skip ?_ | refine aw_ret ?_ | refine q_ret ?_ | refine q_blockN ?_ | refine q_blockR ?_ | refine aw_exit ?_ | refine q_exit ?_ | refine q_blockE ?_ | refine q_blockX de_ ?_ | refine fin_r rfl ?_ | (refine w_req rfl ?_ ?_; · exact rq_U4) | (refine w_lk rfl ?_; refine ⟨_, lk_U4, ?_⟩) | refine w_look (l' := _ :: _) rfl rfl ?_ | refine w_look (l' := []) rfl rfl ?_ | refine w_req rfl ?_ ?_ | refine w_pick rfl (fun b => ?_))
  rfl
theorem copyUp (u : Upp) {c : Nat} (hc : c = u.d.length) (hl : u.d.length ≤ 4294967296) : AGood e.P 89 [u.pa c] u.tr [keep4] := by
  subst hc
  refine agood eok (fn := Try.f89) kr_ de_ rfl kr_ ok_U4 ok_U4 ?_
  repeat' (first | refine o_cons ?_ | refine w_ok rfl ?_ | refine w_call rfl (clone u.d rfl hl) ?_ | refine o_nil ?_ | refine q_then ?_ | refine sq ?_ | refine aw_seq ?_ | refine aw_reg ?_ | refine w_pT rfl ka rfl ?_ | refine w_pF rfl ka rfl ?_ | refine o_y rfl ka ?_ | refine o_nT rfl ka ?_ | refine o_nF rfl ka ?_ | refine o_nU rfl ?_ | refine aw_cT rfl ka ?_ | refine aw_cF rfl ka ?_ | refine o_gT rfl (fun h => ?_) (fun h => ?_) | refine o_gF rfl (fun h => ?_) (fun h => ?_) | refine aw_cond rfl (fun h => ?_) (fun h => ?_) | refine aw_block ?_ | refine aw_skip ?_ | refine aw_ret ?_ | refine q_ret ?_ | refine q_blockN ?_ | refine q_blockR ?_ | refine aw_exit ?_ | refine q_exit ?_ | refine q_blockE ?_ | refine q_blockX de_ ?_ | refine fin_r rfl ?_ | (refine w_req rfl ?_ ?_; · exact rq_U4) | (refine w_lk rfl ?_; refine ⟨_, lk_U4, ?_⟩) | refine w_look (l' := _ :: _) rfl rfl ?_ | refine w_look (l' := []) rfl rfl ?_ | refine w_req rfl ?_ ?_ | refine w_pick rfl (fun b => ?_))
  rfl
end Go.Proofs.Ytbkpmljdmlhmhaa
