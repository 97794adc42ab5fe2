import Derived.Test.YtbkpmljdmlhmhaaE5
namespace Go.Proofs.Ytbkpmljdmlhmhaa
open Go Go.AM Ty
set_option maxRecDepth 100000
set_option maxHeartbeats 4000000
set_option linter.unusedVariables false
set_option linter.unusedSimpArgs false
attribute [local irreducible] aw aops aopsD wpo wpoL condW guardW thenQ blockQ finQ Le AGood
theorem rq_E6 {p : Prop} (h : p := by first | assumption | exact rT_plain _ | exact rq_) : p := h
theorem lk_E6 {p : Prop} (h : p := by first | exact bT_app _ _ | exact mp_el (f := Tr.str) emp side_ | exact rT_snoc _ rfl | exact rT_el side_ | exact lk_) : p := h
theorem ok_E6 {p : Prop} (h : p := by first | (simp [Tr.okR, Tr.okRL, Tr.plainL, Tr.plain, cells1, Tr.cellB, PB.okRL, PB.okR, bT_plain, sT_plain, oT_plain, nT_plain, rT_plain]; done) | exact ok_) : p := h
attribute [local irreducible] getRecM
abbrev Rc.cells (r : Rc) : List Tr := [.int .i64 r.a, .int .i64 r.b, .int .i64 r.k, .str r.s, .int .i64 r.n, .row 1 r.d.length (bT r.d)]
abbrev rT (l : List Rc) : List Tr := l.flatMap Rc.cells
theorem rc_sz (r : Rc) : r.cells.length = 6 := rfl
theorem rT_plain (l : List Rc) : Tr.plainL (rT l) := fl_plain (fun r => by simp [Rc.cells, Tr.plainL, Tr.plain, bT_plain]) l
theorem rT_snoc (l : List Rc) {a b k n : Int} {s : ByteArray} {c : Nat} {d : List UInt8} (hc : c = d.length) : rT l ++ [.int .i64 a, .int .i64 b, .int .i64 k, .str s, .int .i64 n, .row 1 c (bT d)] = rT (l ++ [⟨a, b, k, s, n, d⟩]) := by
  subst hc; unfold rT; rw [List.flatMap_append]; rfl
theorem rT_el {l : List Rc} {i : Int} (h : 0 ≤ i ∧ i < (l.length : Int)) : el (rT l) 6 i.toNat = (l.getD i.toNat zeroR).cells := el_fl rc_sz (by omega)
/-- the records that stand one behind the other -/
def scanGo (i least : Int) : List ByteArray → List Rc
  | [] => []
  | s :: t => if (getRecM s).isSome && decide ((gR s).b = i) && decide (least ≤ (gR s).a) then gR s :: scanGo (i + 1) (gR s).a t else []
def scanM (l : List ByteArray) : List Rc := scanGo 0 0 l
theorem scanGo_step {l : List ByteArray} {i : Nat} {j least : Int} (h : i < l.length) : scanGo j least (l.drop i) = if (getRecM (l.getD i emp)).isSome && decide ((gR (l.getD i emp)).b = j) && decide (least ≤ (gR (l.getD i emp)).a) then gR (l.getD i emp) :: scanGo (j + 1) (gR (l.getD i emp)).a (l.drop (i + 1)) else [] := by
  rw [List.drop_eq_getElem_cons h, List.getD_eq_getElem?_getD, List.getElem?_eq_getElem h]
  rfl
theorem scan_end {a : List ByteArray} {i : Nat} {least : Int} {out : List Rc} (hM : out ++ scanGo i least (a.drop i) = scanM a) (h : i < a.length → ¬ ((getRecM (a.getD i emp)).isSome = true ∧ (gR (a.getD i emp)).b = i ∧ least ≤ (gR (a.getD i emp)).a)) : out = scanM a := by
  rw [← hM]
  rcases Nat.lt_or_ge i a.length with hi | hi
  · rw [scanGo_step hi, if_neg, List.append_nil]
    simp only [Bool.and_eq_true, decide_eq_true_eq, and_assoc]
    exact h hi
  · rw [List.drop_eq_nil_of_le hi]; unfold scanGo; rw [List.append_nil]
theorem scan_next {a : List ByteArray} {i : Nat} {least : Int} {out : List Rc} (hi : i < a.length) (hM : out ++ scanGo i least (a.drop i) = scanM a) (h : (getRecM (a.getD i emp)).isSome = true ∧ (gR (a.getD i emp)).b = i ∧ least ≤ (gR (a.getD i emp)).a) : (out ++ [gR (a.getD i emp)]) ++ scanGo ((i + 1 : Nat) : Int) (gR (a.getD i emp)).a (a.drop (i + 1)) = scanM a := by
  rw [← hM, scanGo_step hi, if_pos (by simp only [Bool.and_eq_true, decide_eq_true_eq, and_assoc]; exact h), List.append_assoc]
  rfl
theorem scanS (a b : List ByteArray) {m n : Nat} (hm : m = a.length) (ha : a.length ≤ 1048576) (hs : ∀ s ∈ a, s.size ≤ 1048576) : AGood e.P 43 [dkR a b m n] (.row 6 (scanM a).length (rT (scanM a))) [keep2] := by
  subst hm
  refine agood eok (fn := Try.f43) kr_ de_ rfl kr_ ok_E6 ok_E6 ?_
  repeat' (first | refine o_cons ?_ | refine w_ok rfl ?_ | refine o_nil ?_ | refine q_then ?_ | refine sq ?_ | refine aw_seq ?_ | refine aw_reg ?_ | refine w_pT rfl ka rfl ?_ | refine w_pF rfl ka rfl ?_ | refine o_y rfl ka ?_ | refine o_nT rfl ka ?_ | refine o_nF rfl ka ?_ | refine o_nU rfl ?_ | refine aw_cT rfl ka ?_ | refine aw_cF rfl ka ?_ | refine o_gT rfl (fun h => ?_) (fun h => ?_) | refine o_gF rfl (fun h => ?_) (fun h => ?_) | refine aw_cond rfl (fun h => ?_) (fun h => ?_) | refine aw_block ?_ | refine aw_skip ?_ | refine aw_ret ?_ | refine q_ret ?_ | refine q_blockN ?_ | refine q_blockR ?_ | refine aw_exit ?_ | refine q_exit ?_ | refine q_blockE ?_ | refine q_blockX de_ ?_ | refine fin_r rfl ?_ | (refine w_req rfl ?_ ?_; · exact rq_E6) | (refine w_lk rfl ?_; refine ⟨_, lk_E6, ?_⟩) | refine w_look (l' := _ :: _) rfl rfl ?_ | refine w_look (l' := []) rfl rfl ?_ | refine w_req rfl ?_ ?_ | refine w_pick rfl (fun b => ?_))
  refine loop3 (fun (i : Nat) (least : Int) (out : List Rc) => ⟨tbl [(1, .ptr 2000 0 0 0), (3, .own 9000 0), (4, .int .i64 least), (5, .int .i64 i)], mbl [(2000, .box 0 42 [.ro none 1 a.length (sT a), .ro none 1 n (sT b)]), (9000, .row 0 0 6 out.length (rT out))], [.agg [.ro (some 0) 1 a.length (sT a), .ro (some 1) 1 n (sT b)]]⟩) (fun i least out => i ≤ a.length ∧ out.length ≤ i ∧ out ++ scanGo i least (a.drop i) = scanM a) (fun i _ _ => a.length - i) 0 0 [] ?_ ?_ ?_
  · exact ⟨Nat.zero_le _, Nat.zero_le _, rfl⟩
  · (refine le_of [(2000, 2000), (9000, 9000)] ?_; repeat' (first | exact trivial | refine an ?_ ?_ | with_reducible rfl | exact bt rfl | exact Or.inl rfl | exact Or.inr rfl | exact Eq.refl _))
  rintro i least out ⟨hi, ho, hM⟩
  repeat' (first | refine o_cons ?_ | refine w_ok rfl ?_ | refine w_call rfl (getRecS (a.getD (i : Int).toNat emp) (getD_all hs side_)) ?_ | refine o_nil ?_ | refine q_then ?_ | refine sq ?_ | refine aw_seq ?_ | refine aw_reg ?_ | refine w_pT rfl ka rfl ?_ | refine w_pF rfl ka rfl ?_ | refine o_y rfl ka ?_ | refine o_nT rfl ka ?_ | refine o_nF rfl ka ?_ | refine o_nU rfl ?_ | refine aw_cT rfl ka ?_ | refine aw_cF rfl ka ?_ | refine o_gT rfl (fun h => ?_) (fun h => ?_) | refine o_gF rfl (fun h => ?_) (fun h => ?_) | refine aw_cond rfl (fun h => ?_) (fun h => ?_) | refine aw_block ?_ | refine aw_skip ?_ | refine aw_ret ?_ | refine q_ret ?_ | refine q_blockN ?_ | refine q_blockR ?_ | refine aw_exit ?_ | refine q_exit ?_ | refine q_blockE ?_ | refine q_blockX de_ ?_ | refine fin_r rfl ?_ | (refine w_req rfl ?_ ?_; · exact rq_E6) | (refine w_lk rfl ?_; refine ⟨_, lk_E6, ?_⟩) | refine w_look (l' := _ :: _) rfl rfl ?_ | refine w_look (l' := []) rfl rfl ?_ | refine w_req rfl ?_ ?_ | refine w_pick rfl (fun b => ?_))
  any_goals
    refine Eq.trans ?_ (congrArg (fun l => (Tr.row 6 l.length (rT l), [keep2])) (scan_end (i := i) (least := least) (out := out) hM (by first | (intro hi; exfalso; simp at *; omega) | (simp only [gR, Int.toNat_natCast] at *; simp_all))))
    rfl
  · have hil : i < a.length := by (exact side_)
    refine ⟨i + 1, (gR (a.getD i emp)).a, out ++ [gR (a.getD i emp)], ⟨⟨by omega, by simp; omega, scan_next hil hM (by first | (intro hi; exfalso; simp at *; omega) | (simp only [gR, Int.toNat_natCast] at *; simp_all))⟩, by omega⟩, ?_⟩
    (refine le_of [(2000, 2000), (9000, 9000)] ?_; repeat' (first | exact trivial | refine an ?_ ?_ | with_reducible rfl | exact bt rfl | exact Or.inl rfl | exact Or.inr rfl | exact Eq.refl _))
    all_goals first | omega | (simp; done) | (rw [wrap64] <;> omega) | (simp; omega)
theorem scan (a b : List ByteArray) {m n : Nat} (hm : m = a.length) (ha : a.length ≤ 1048576) (hs : ∀ s ∈ a, s.size ≤ 1048576) : AGood e.P 42 [dkR a b m n] (.row 6 (scanM a).length (rT (scanM a))) [keep2] := by
  subst hm
  refine agood eok (fn := Try.f42) kr_ de_ rfl kr_ ok_E6 ok_E6 ?_
  repeat' (first | refine o_cons ?_ | refine w_ok rfl ?_ | refine o_nil ?_ | refine q_then ?_ | refine sq ?_ | refine aw_seq ?_ | refine aw_reg ?_ | refine w_pT rfl ka rfl ?_ | refine w_pF rfl ka rfl ?_ | refine o_y rfl ka ?_ | refine o_nT rfl ka ?_ | refine o_nF rfl ka ?_ | refine o_nU rfl ?_ | refine aw_cT rfl ka ?_ | refine aw_cF rfl ka ?_ | refine o_gT rfl (fun h => ?_) (fun h => ?_) | refine o_gF rfl (fun h => ?_) (fun h => ?_) | refine aw_cond rfl (fun h => ?_) (fun h => ?_) | refine aw_block ?_ | refine aw_skip ?_ | refine aw_ret ?_ | refine q_ret ?_ | refine q_blockN ?_ | refine q_blockR ?_ | refine aw_exit ?_ | refine q_exit ?_ | refine q_blockE ?_ | refine q_blockX de_ ?_ | refine fin_r rfl ?_ | (refine w_req rfl ?_ ?_; · exact rq_E6) | (refine w_lk rfl ?_; refine ⟨_, lk_E6, ?_⟩) | refine w_look (l' := _ :: _) rfl rfl ?_ | refine w_look (l' := []) rfl rfl ?_ | refine w_req rfl ?_ ?_ | refine w_pick rfl (fun b => ?_))
  refine loop3 (fun (i : Nat) (least : Int) (out : List Rc) => ⟨tbl [(3, .own 40000 0), (4, .int .i64 least), (10, .ro none 1 a.length (sT a)), (11, .int .i64 a.length), (12, .int .i64 i)], mbl [(40000, .row 0 0 6 out.length (rT out))], [.agg [.ro (some 0) 1 a.length (sT a), .ro (some 1) 1 n (sT b)]]⟩) (fun i least out => i ≤ a.length ∧ out.length ≤ i ∧ out ++ scanGo i least (a.drop i) = scanM a) (fun i _ _ => a.length - i) 0 0 [] ?_ ?_ ?_
  · exact ⟨Nat.zero_le _, Nat.zero_le _, rfl⟩
  · refine Le.trans (Le.nilT 3 40000 0 6 rfl (fun b0 h => by cases h)) ?_
    (refine le_of [(40000, 40000)] ?_; repeat' (first | exact trivial | refine an ?_ ?_ | with_reducible rfl | exact bt rfl | exact Or.inl rfl | exact Or.inr rfl | exact Eq.refl _))
  rintro i least out ⟨hi, ho, hM⟩
  repeat' (first | refine o_cons ?_ | refine w_ok rfl ?_ | refine w_call rfl (getRec (a.getD (i : Int).toNat emp) (getD_all hs side_)) ?_ | refine o_nil ?_ | refine q_then ?_ | refine sq ?_ | refine aw_seq ?_ | refine aw_reg ?_ | refine w_pT rfl ka rfl ?_ | refine w_pF rfl ka rfl ?_ | refine o_y rfl ka ?_ | refine o_nT rfl ka ?_ | refine o_nF rfl ka ?_ | refine o_nU rfl ?_ | refine aw_cT rfl ka ?_ | refine aw_cF rfl ka ?_ | refine o_gT rfl (fun h => ?_) (fun h => ?_) | refine o_gF rfl (fun h => ?_) (fun h => ?_) | refine aw_cond rfl (fun h => ?_) (fun h => ?_) | refine aw_block ?_ | refine aw_skip ?_ | refine aw_ret ?_ | refine q_ret ?_ | refine q_blockN ?_ | refine q_blockR ?_ | refine aw_exit ?_ | refine q_exit ?_ | refine q_blockE ?_ | refine q_blockX de_ ?_ | refine fin_r rfl ?_ | (refine w_req rfl ?_ ?_; · exact rq_E6) | (refine w_lk rfl ?_; refine ⟨_, lk_E6, ?_⟩) | refine w_look (l' := _ :: _) rfl rfl ?_ | refine w_look (l' := []) rfl rfl ?_ | refine w_req rfl ?_ ?_ | refine w_pick rfl (fun b => ?_))
  any_goals
    refine Eq.trans ?_ (congrArg (fun l => (Tr.row 6 l.length (rT l), [keep2])) (scan_end (i := i) (least := least) (out := out) hM (by first | (intro hi; exfalso; simp at *; omega) | (simp only [gR, Int.toNat_natCast] at *; simp_all))))
    rfl
  · have hil : i < a.length := by (exact side_)
    refine ⟨i + 1, (gR (a.getD i emp)).a, out ++ [gR (a.getD i emp)], ⟨⟨by omega, by simp; omega, scan_next hil hM (by simp only [gR, Int.toNat_natCast] at *; simp_all)⟩, by omega⟩, ?_⟩
    (refine le_of [(40000, 40000)] ?_; repeat' (first | exact trivial | refine an ?_ ?_ | with_reducible rfl | exact bt rfl | exact Or.inl rfl | exact Or.inr rfl | exact Eq.refl _))
    all_goals first | omega | (simp; done) | (rw [wrap64] <;> omega) | (simp; omega)
theorem scanM_len (l : List ByteArray) : (scanM l).length ≤ l.length := by
  have : ∀ (l : List ByteArray) (i least : Int), (scanGo i least l).length ≤ l.length := by
    intro l
    induction l with
    | nil => intro i least; unfold scanGo; simp
    | cons s t ih =>
      intro i least
      unfold scanGo
      split
      · simp only [List.length_cons]; have := ih (i + 1) (gR s).a; omega
      · simp
  exact this l 0 0
theorem scanM_ok {l : List ByteArray} {r : Rc} (h : r ∈ scanM l) : recOkM r = true := by
  have : ∀ (l : List ByteArray) (i least : Int), r ∈ scanGo i least l → recOkM r = true := by
    intro l
    induction l with
    | nil => intro i least h; unfold scanGo at h; cases h
    | cons s t ih =>
      intro i least h
      unfold scanGo at h
      split at h
      · rename_i hc
        rcases List.mem_cons.1 h with rfl | h
        · simp only [Bool.and_eq_true] at hc
          obtain ⟨⟨hc, _⟩, _⟩ := hc
          cases hg : getRecM s with
          | none => rw [hg] at hc; cases hc
          | some r' =>
            have := (getRecM_ok hg).1
            simp only [gR, hg, Option.getD_some]
            exact this
        · exact ih _ _ h
      · cases h
  exact this l 0 0 h
end Go.Proofs.Ytbkpmljdmlhmhaa
