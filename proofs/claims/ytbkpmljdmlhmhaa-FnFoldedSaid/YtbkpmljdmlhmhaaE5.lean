import Derived.Test.YtbkpmljdmlhmhaaL1
import Derived.Test.YtbkpmljdmlhmhaaE4
namespace Go.Proofs.Ytbkpmljdmlhmhaa
open Go Go.AM Ty
set_option maxRecDepth 100000
set_option maxHeartbeats 4000000
set_option linter.unusedVariables false
set_option linter.unusedSimpArgs false
attribute [local irreducible] aw aops aopsD wpo wpoL condW guardW thenQ blockQ finQ Le AGood
theorem lk_E5 {p : Prop} (h : p := by first | exact bT_app _ _ | exact mp_el (f := Tr.str) emp side_ | exact lk_) : p := h
attribute [local irreducible] getRecM
abbrev gR (s : ByteArray) : Rc := (getRecM s).getD zeroR
def topStep (t : Int) (s : ByteArray) : Int := if (getRecM s).isSome && decide (t < (gR s).a) then (gR s).a else t
def topM (l : List ByteArray) : Int := l.foldl topStep (-1)
theorem topM_step {l : List ByteArray} {i : Nat} (h : i < l.length) : topM (l.take (i + 1)) = topStep (topM (l.take i)) (l.getD i emp) := by
  unfold topM; rw [take_succ_getD (z := emp) h, List.foldl_append]; rfl
theorem getD_all {α : Type} {p : α → Prop} {l : List α} {i : Nat} {z : α} (hp : ∀ a ∈ l, p a) (h : i < l.length) : p (l.getD i z) := by
  rw [List.getD_eq_getElem?_getD, List.getElem?_eq_getElem h]; exact hp _ (List.getElem_mem _)
theorem topFrom (l : List ByteArray) {n : Nat} (hn : n = l.length) (hl : l.length ≤ 1048576) (hs : ∀ s ∈ l, s.size ≤ 1048576) : AGood e.P 84 [.ro (.row 1 n (sT l))] (.int .i64 (topM l)) [.keep] := by
  subst hn
  refine agood eok (fn := Try.f84) kr_ de_ rfl kr_ ok_ ok_ ?_
  repeat' (first | refine o_cons ?_ | refine w_ok rfl ?_ | refine o_nil ?_ | refine q_then ?_ | refine sq ?_ | refine aw_seq ?_ | refine aw_reg ?_ | refine w_pT rfl ka rfl ?_ | refine w_pF rfl ka rfl ?_ | refine o_y rfl ka ?_ | refine o_nT rfl ka ?_ | refine o_nF rfl ka ?_ | refine o_nU rfl ?_ | refine aw_cT rfl ka ?_ | refine aw_cF rfl ka ?_ | refine o_gT rfl (fun h => ?_) (fun h => ?_) | refine o_gF rfl (fun h => ?_) (fun h => ?_) | refine aw_cond rfl (fun h => ?_) (fun h => ?_) | refine aw_block ?_ | refine aw_skip ?_ | refine aw_ret ?_ | refine q_ret ?_ | refine q_blockN ?_ | refine q_blockR ?_ | refine aw_exit ?_ | refine q_exit ?_ | refine q_blockE ?_ | refine q_blockX de_ ?_ | refine fin_r rfl ?_ | (refine w_req rfl ?_ ?_; · exact rq_) | (refine w_lk rfl ?_; refine ⟨_, lk_E5, ?_⟩) | refine w_look (l' := _ :: _) rfl rfl ?_ | refine w_look (l' := []) rfl rfl ?_ | refine w_req rfl ?_ ?_ | refine w_pick rfl (fun b => ?_))
  refine loop1 (fun i : Nat => ⟨tbl [(3, .int .i64 (topM (l.take i))), (8, .ro none 1 l.length (sT l)), (9, .int .i64 l.length), (10, .int .i64 i)], mbl [], [.ro (some 0) 1 l.length (sT l)]⟩) (fun i => i ≤ l.length) (fun i => l.length - i) 0 (Nat.zero_le _) ?_ ?_
  · (refine le_of [] ?_; repeat' (first | exact trivial | refine an ?_ ?_ | with_reducible rfl | exact bt rfl | exact Or.inl rfl | exact Or.inr rfl | exact Eq.refl _))
  intro i hi
  repeat' (first | refine o_cons ?_ | refine w_ok rfl ?_ | refine w_call rfl (getRec (l.getD (i : Int).toNat emp) (getD_all hs side_)) ?_ | refine o_nil ?_ | refine q_then ?_ | refine sq ?_ | refine aw_seq ?_ | refine aw_reg ?_ | refine w_pT rfl ka rfl ?_ | refine w_pF rfl ka rfl ?_ | refine o_y rfl ka ?_ | refine o_nT rfl ka ?_ | refine o_nF rfl ka ?_ | refine o_nU rfl ?_ | refine aw_cT rfl ka ?_ | refine aw_cF rfl ka ?_ | refine o_gT rfl (fun h => ?_) (fun h => ?_) | refine o_gF rfl (fun h => ?_) (fun h => ?_) | refine aw_cond rfl (fun h => ?_) (fun h => ?_) | refine aw_block ?_ | refine aw_skip ?_ | refine aw_ret ?_ | refine q_ret ?_ | refine q_blockN ?_ | refine q_blockR ?_ | refine aw_exit ?_ | refine q_exit ?_ | refine q_blockE ?_ | refine q_blockX de_ ?_ | refine fin_r rfl ?_ | (refine w_req rfl ?_ ?_; · exact rq_) | (refine w_lk rfl ?_; refine ⟨_, lk_E5, ?_⟩) | refine w_look (l' := _ :: _) rfl rfl ?_ | refine w_look (l' := []) rfl rfl ?_ | refine w_req rfl ?_ ?_ | refine w_pick rfl (fun b => ?_))
  · have hil : i < l.length := by (exact side_)
    refine ⟨i + 1, ⟨by omega, by omega⟩, ?_⟩
    (refine le_of [] ?_; repeat' (first | exact trivial | refine an ?_ ?_ | with_reducible rfl | exact bt rfl | exact Or.inl rfl | exact Or.inr rfl | exact Eq.refl _))
    · rw [topM_step hil]; unfold topStep; rw [show (getRecM (l.getD i emp)).isSome = true from h]; simp only [if_true, Bool.true_and, decide_eq_true_eq]; rfl
    · first | omega | (simp; done) | (rw [wrap64] <;> omega) | (simp; omega)
  · have hil : i < l.length := by (exact side_)
    refine ⟨i + 1, ⟨by omega, by omega⟩, ?_⟩
    (refine le_of [] ?_; repeat' (first | exact trivial | refine an ?_ ?_ | with_reducible rfl | exact bt rfl | exact Or.inl rfl | exact Or.inr rfl | exact Eq.refl _))
    · rw [topM_step hil]; unfold topStep; rw [show (getRecM (l.getD i emp)).isSome = false from h]; rfl
    · first | omega | (simp; done) | (rw [wrap64] <;> omega) | (simp; omega)
  · have : i = l.length := by (exact side_)
    subst this
    rw [List.take_length]
theorem topEpoch (a b : List ByteArray) {m n : Nat} (hm : m = a.length) (ha : a.length ≤ 1048576) (hs : ∀ s ∈ a, s.size ≤ 1048576) : AGood e.P 30 [dkR a b m n] (.int .i64 (topM a)) [keep2] := by
  subst hm
  refine agood eok (fn := Try.f30) kr_ de_ rfl kr_ ok_ ok_ ?_
  repeat' (first | refine o_cons ?_ | refine w_ok rfl ?_ | refine w_call rfl (topFrom a rfl ha hs) ?_ | refine o_nil ?_ | refine q_then ?_ | refine sq ?_ | refine aw_seq ?_ | refine aw_reg ?_ | refine w_pT rfl ka rfl ?_ | refine w_pF rfl ka rfl ?_ | refine o_y rfl ka ?_ | refine o_nT rfl ka ?_ | refine o_nF rfl ka ?_ | refine o_nU rfl ?_ | refine aw_cT rfl ka ?_ | refine aw_cF rfl ka ?_ | refine o_gT rfl (fun h => ?_) (fun h => ?_) | refine o_gF rfl (fun h => ?_) (fun h => ?_) | refine aw_cond rfl (fun h => ?_) (fun h => ?_) | refine aw_block ?_ | refine aw_skip ?_ | refine aw_ret ?_ | refine q_ret ?_ | refine q_blockN ?_ | refine q_blockR ?_ | refine aw_exit ?_ | refine q_exit ?_ | refine q_blockE ?_ | refine q_blockX de_ ?_ | refine fin_r rfl ?_ | (refine w_req rfl ?_ ?_; · exact rq_) | (refine w_lk rfl ?_; refine ⟨_, lk_E5, ?_⟩) | refine w_look (l' := _ :: _) rfl rfl ?_ | refine w_look (l' := []) rfl rfl ?_ | refine w_req rfl ?_ ?_ | refine w_pick rfl (fun b => ?_))
  rfl
theorem topEpochS (a b : List ByteArray) {m n : Nat} (hm : m = a.length) (ha : a.length ≤ 1048576) (hs : ∀ s ∈ a, s.size ≤ 1048576) : AGood e.P 28 [dkR a b m n] (.int .i64 (topM a)) [keep2] := by
  subst hm
  refine agood eok (fn := Try.f28) kr_ de_ rfl kr_ ok_ ok_ ?_
  repeat' (first | refine o_cons ?_ | refine w_ok rfl ?_ | refine o_nil ?_ | refine q_then ?_ | refine sq ?_ | refine aw_seq ?_ | refine aw_reg ?_ | refine w_pT rfl ka rfl ?_ | refine w_pF rfl ka rfl ?_ | refine o_y rfl ka ?_ | refine o_nT rfl ka ?_ | refine o_nF rfl ka ?_ | refine o_nU rfl ?_ | refine aw_cT rfl ka ?_ | refine aw_cF rfl ka ?_ | refine o_gT rfl (fun h => ?_) (fun h => ?_) | refine o_gF rfl (fun h => ?_) (fun h => ?_) | refine aw_cond rfl (fun h => ?_) (fun h => ?_) | refine aw_block ?_ | refine aw_skip ?_ | refine aw_ret ?_ | refine q_ret ?_ | refine q_blockN ?_ | refine q_blockR ?_ | refine aw_exit ?_ | refine q_exit ?_ | refine q_blockE ?_ | refine q_blockX de_ ?_ | refine fin_r rfl ?_ | (refine w_req rfl ?_ ?_; · exact rq_) | (refine w_lk rfl ?_; refine ⟨_, lk_E5, ?_⟩) | refine w_look (l' := _ :: _) rfl rfl ?_ | refine w_look (l' := []) rfl rfl ?_ | refine w_req rfl ?_ ?_ | refine w_pick rfl (fun b => ?_))
  refine loop1 (fun i : Nat => ⟨tbl [(1, .ptr 2000 0 0 0), (3, .int .i64 (topM (a.take i))), (4, .int .i64 i)], mbl [(2000, .box 0 42 [.ro none 1 a.length (sT a), .ro none 1 n (sT b)])], [.agg [.ro (some 0) 1 a.length (sT a), .ro (some 1) 1 n (sT b)]]⟩) (fun i => i ≤ a.length) (fun i => a.length - i) 0 (Nat.zero_le _) ?_ ?_
  · (refine le_of [(2000, 2000)] ?_; repeat' (first | exact trivial | refine an ?_ ?_ | with_reducible rfl | exact bt rfl | exact Or.inl rfl | exact Or.inr rfl | exact Eq.refl _))
  intro i hi
  repeat' (first | refine o_cons ?_ | refine w_ok rfl ?_ | refine w_call rfl (getRecS (a.getD (i : Int).toNat emp) (getD_all hs side_)) ?_ | refine o_nil ?_ | refine q_then ?_ | refine sq ?_ | refine aw_seq ?_ | refine aw_reg ?_ | refine w_pT rfl ka rfl ?_ | refine w_pF rfl ka rfl ?_ | refine o_y rfl ka ?_ | refine o_nT rfl ka ?_ | refine o_nF rfl ka ?_ | refine o_nU rfl ?_ | refine aw_cT rfl ka ?_ | refine aw_cF rfl ka ?_ | refine o_gT rfl (fun h => ?_) (fun h => ?_) | refine o_gF rfl (fun h => ?_) (fun h => ?_) | refine aw_cond rfl (fun h => ?_) (fun h => ?_) | refine aw_block ?_ | refine aw_skip ?_ | refine aw_ret ?_ | refine q_ret ?_ | refine q_blockN ?_ | refine q_blockR ?_ | refine aw_exit ?_ | refine q_exit ?_ | refine q_blockE ?_ | refine q_blockX de_ ?_ | refine fin_r rfl ?_ | (refine w_req rfl ?_ ?_; · exact rq_) | (refine w_lk rfl ?_; refine ⟨_, lk_E5, ?_⟩) | refine w_look (l' := _ :: _) rfl rfl ?_ | refine w_look (l' := []) rfl rfl ?_ | refine w_req rfl ?_ ?_ | refine w_pick rfl (fun b => ?_))
  · rename_i h0 h1
    have hil : i < a.length := by (exact side_)
    refine ⟨i + 1, ⟨by omega, by omega⟩, ?_⟩
    (refine le_of [(2000, 2000)] ?_; repeat' (first | exact trivial | refine an ?_ ?_ | with_reducible rfl | exact bt rfl | exact Or.inl rfl | exact Or.inr rfl | exact Eq.refl _))
    · rw [topM_step hil]; unfold topStep; rw [show (getRecM (a.getD i emp)).isSome = true from h1]; exact (if_pos (by simpa using h)).symm
    · first | omega | (simp; done) | (rw [wrap64] <;> omega) | (simp; omega)
  · rename_i h0 h1
    have hil : i < a.length := by (exact side_)
    refine ⟨i + 1, ⟨by omega, by omega⟩, ?_⟩
    (refine le_of [(2000, 2000)] ?_; repeat' (first | exact trivial | refine an ?_ ?_ | with_reducible rfl | exact bt rfl | exact Or.inl rfl | exact Or.inr rfl | exact Eq.refl _))
    · rw [topM_step hil]; unfold topStep; rw [show (getRecM (a.getD i emp)).isSome = true from h1]; exact (if_neg (by simpa using h)).symm
    · first | omega | (simp; done) | (rw [wrap64] <;> omega) | (simp; omega)
  · rename_i h0
    have hil : i < a.length := by (exact side_)
    refine ⟨i + 1, ⟨by omega, by omega⟩, ?_⟩
    (refine le_of [(2000, 2000)] ?_; repeat' (first | exact trivial | refine an ?_ ?_ | with_reducible rfl | exact bt rfl | exact Or.inl rfl | exact Or.inr rfl | exact Eq.refl _))
    · rw [topM_step hil]; unfold topStep; rw [show (getRecM (a.getD i emp)).isSome = false from h]; rfl
    · first | omega | (simp; done) | (rw [wrap64] <;> omega) | (simp; omega)
  · have : i = a.length := by (exact side_)
    subst this
    rw [List.take_length]
end Go.Proofs.Ytbkpmljdmlhmhaa
