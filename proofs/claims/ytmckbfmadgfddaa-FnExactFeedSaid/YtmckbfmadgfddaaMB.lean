/- AN ABSTRACT MACHINE, 9: places, numbers, lengths, cuts, conversions. No condition of its own. -/
import Derived.Test.YtmckbfmadgfddaaMA
set_option linter.unusedVariables false
set_option linter.unusedSimpArgs false
namespace Go.AM
open Go AM

section
variable {P : Program} {c : Ctx} {hd : Nat → Value} {fp : Nat → List Nat} {m m' : Mem} {w : World} {X : List Nat} {u : Nat → Bool} {A W : List Nat} {v : AV} {τ : TTab}

theorem run_fieldPlace {f : Field} {fi : TI} (h : TI.Ok P f.type fi) (h0 : 0 < fi.size) (a : Addr) (w : World) : (fieldPlace a f).run P w = .ok (a.add f.offset) w := by
  have : ¬ (fi.size = 0) := by omega
  simp only [fieldPlace, Sem.run_bind, h.size, Result.andThen_ok, this, if_false, Sem.run_pure]
theorem fieldPtr_ok (hτ : TTok P τ) (H : HM c hd fp m w X) {t f : Nat} {x : AV} {xv : Value} (hx : AVok c hd m w.heap x xv) (hE : Ex P (fieldPtr τ t x f) u m v m' A W) :
    m' = m ∧ ∃ vv, (Instr.fieldAt t xv f).run P w = .ok vv w ∧ AVok c hd m w.heap v vv := by
  unfold fieldPtr at hE
  split at hE
  · rename_i fs _ _ _ ht
    obtain ⟨fields, hu, hfs⟩ := (hτ t _ ht).struct rfl
    split at hE
    · rename_i o ft hf
      rw [← hfs, List.getElem?_map] at hf
      obtain ⟨fl, hfl, he⟩ := Option.map_eq_some_iff.1 hf
      simp only [Prod.mk.injEq] at he
      obtain ⟨rfl, rfl⟩ := he
      rw [Array.getElem?_toList] at hfl
      split at hE
      · rename_i fi hfi
        split at hE
        · rename_i h0
          have hrun : ∀ a : Addr, (Instr.fieldAt t (.pointer (some a)) f).run P w = .ok (.pointer (some (a.add fl.offset))) w := fun a => by
            simp only [Instr.fieldAt, Sem.run_bind, run_underlying hu, Result.andThen_ok, hfl, Instr.sureAddr, Sem.run_pure, run_fieldPlace (hτ _ fi hfi) h0]
          split at hE
          · simp only [Ex] at hE
            obtain ⟨rfl, rfl, _, _⟩ := hE
            refine ⟨rfl, ?_⟩
            simp only [AVok] at hx
            obtain ⟨h1, b, hb, hg, hk⟩ := hx
            obtain ⟨a, rfl⟩ := h1
            refine ⟨_, hrun a, ?_⟩
            simp only [AVok]
            refine ⟨⟨_, rfl⟩, b, hb, hg, fun e => ?_⟩
            have := hk e
            cases b with
            | row g' vv sz n cs =>
              obtain ⟨hi, b', N, C, k1, k2⟩ := this
              injection k2 with k2; injection k2 with k2
              subst k2
              exact ⟨hi, b', N, C, k1, by rw [add_off, Nat.add_assoc]⟩
            | box g' t' cs =>
              obtain ⟨hi, b', k1, k2⟩ := this
              injection k2 with k2; injection k2 with k2
              subst k2
              exact ⟨hi, b', k1, by rw [add_off]⟩
            | gone g' => trivial
            | lent g' vv sz n =>
              obtain ⟨hi, b', N, C, k1, k2⟩ := this
              injection k2 with k2; injection k2 with k2
              subst k2
              exact ⟨hi, b', N, C, k1, by rw [add_off, Nat.add_assoc]⟩
            | lentB g' t' =>
              obtain ⟨hi, b', k1, k2⟩ := this
              injection k2 with k2; injection k2 with k2
              subst k2
              exact ⟨hi, b', k1, by rw [add_off]⟩
          · simp only [Ex] at hE
            obtain ⟨rfl, rfl, _, _⟩ := hE
            refine ⟨rfl, ?_⟩
            simp only [AVok] at hx
            obtain ⟨a, vs, rfl, hs, h2, h3, h4⟩ := hx
            refine ⟨_, hrun a, ?_⟩
            simp only [AVok]
            refine ⟨_, vs.drop fl.offset, rfl, by rw [add_block]; exact hs, RdL.drop _ h2, fun j y hj => ?_, h4.sub (fun t ht => List.mem_of_mem_drop ht)⟩
            rw [List.getElem?_drop] at hj
            rw [add_add]
            exact h3 _ y hj
          · simp only [Ex] at hE
        · simp only [Ex] at hE
      · simp only [Ex] at hE
    · simp only [Ex] at hE
  · simp only [Ex] at hE

theorem part_ok (hτ : TTok P τ) {t off : Nat} {cs : List AV} {vs : List Value} (hx : AVokL c hd m w.heap cs vs) (h1 : ∀ u, u ∈ vs → u.oneCell' = true) (hE : Ex P (AM.part τ t cs off) u m v m' A W) :
    m' = m ∧ ∃ vv, (Go.part t vs.toArray off).run P w = .ok vv w ∧ AVok c hd m w.heap v vv := by
  unfold AM.part at hE
  split at hE
  · rename_i i hi
    have hti := hτ t i hi
    split at hE
    · rename_i hk
      simp only [Ex] at hE
      obtain ⟨rfl, rfl, _, _⟩ := hE
      refine ⟨rfl, _, by simp only [Go.part, Sem.run_bind, hti.isAgg, Result.andThen_ok, hk, if_true, hti.size, Sem.run_pure]; rfl, ?_⟩
      simp only [AVok]
      refine ⟨_, rfl, ?_, fun z hz => ?_⟩
      · rw [Array.toList_extract]
        have := AVokL.take i.size (AVokL.drop off hx)
        simpa [List.extract_eq_take_drop, Nat.add_sub_cancel_left] using this
      · rw [Array.toList_extract] at hz
        simp only [List.extract_eq_take_drop] at hz
        exact h1 z (List.mem_of_mem_drop (List.mem_of_mem_take (by simpa using hz)))
    · rename_i hk
      have hk' : i.kd.agg = false := by simpa using hk
      split at hE
      · rename_i x hx'
        simp only [Ex] at hE
        obtain ⟨rfl, rfl, _, _⟩ := hE
        obtain ⟨vv, q1, q2⟩ := AVokL.get hx hx'
        refine ⟨rfl, vv, ?_, q2⟩
        simp only [Go.part, Sem.run_bind, hti.isAgg, Result.andThen_ok, hk', Bool.false_eq_true, if_false, List.getElem?_toArray, q1, Sem.run_pure]
      · simp only [Ex] at hE
  · simp only [Ex] at hE
theorem fieldVal_ok (hτ : TTok P τ) {t f : Nat} {x : AV} {xv : Value} (hx : AVok c hd m w.heap x xv) (hE : Ex P (fieldVal τ t x f) u m v m' A W) :
    m' = m ∧ ∃ vv, (Instr.field t xv f).run P w = .ok vv w ∧ AVok c hd m w.heap v vv := by
  unfold fieldVal at hE
  split at hE
  · rename_i fs _ _ _ ht
    obtain ⟨fields, hu, hfs⟩ := (hτ t _ ht).struct rfl
    split at hE
    · rename_i o ft cs hf
      rw [← hfs, List.getElem?_map] at hf
      obtain ⟨fl, hfl, he⟩ := Option.map_eq_some_iff.1 hf
      simp only [Prod.mk.injEq] at he
      obtain ⟨rfl, rfl⟩ := he
      rw [Array.getElem?_toList] at hfl
      simp only [AVok] at hx
      obtain ⟨vs, rfl, h2, h3⟩ := hx
      obtain ⟨rfl, vv, q1, q2⟩ := part_ok (w := w) hτ h2 h3 hE
      refine ⟨rfl, vv, ?_, q2⟩
      simp only [Instr.field, Sem.run_bind, run_underlying hu, Result.andThen_ok, hfl, asAgg, Sem.run_pure]
      simpa using q1
    · simp only [Ex] at hE
  · simp only [Ex] at hE

theorem slice_of_row {h : Heap} {tg : List Value} {sz n : Nat} {cs : List Tr} {x : Value} {F : List Nat} (H : Ow h tg (.row sz n cs) x F) : ∃ B C, x = .slice B n C ∧ n ≤ C ∧ C ≤ maxL ∧ (0 < n → ∃ b, B = some ⟨b, 0, none⟩) ∧ (0 < C → ∃ b, B = some ⟨b, 0, none⟩) := by
  simp only [Ow] at H
  rcases H.2 with ⟨B, rfl, rfl, _⟩ | ⟨g, cap, cur, e, fr, G, rfl, _, _, _, h5, h6, _, _⟩
  · exact ⟨B, 0, rfl, Nat.le_refl _, by unfold maxL; omega, fun h => absurd h (Nat.lt_irrefl _), fun h => absurd h (Nat.lt_irrefl _)⟩
  · exact ⟨_, cap, rfl, h5, h6, fun _ => ⟨g, rfl⟩, fun _ => ⟨g, rfl⟩⟩
theorem run_indexAt {t e : Nat} {ei : TI} (hu : P.underlying t = some (.slice e)) (he : TI.Ok P e ei) (a : Addr) (n C : Nat) (k : IntKind) (i : Int) (h0 : 0 ≤ i) (h1 : i < n) (w : World) :
    (Instr.indexAt t (.slice (some a) n C) (.int k i)).run P w = .ok (.pointer (some (a.add (i.toNat * ei.size)))) w := by
  simp [Instr.indexAt, asIntOf, run_underlying hu, h0, h1, he.size]
theorem indexPtr_ok (hτ : TTok P τ) (H : HM c hd fp m w X) {t : Nat} {x ix : AV} {xv iv : Value} (hx : AVok c hd m w.heap x xv) (hi : AVok c hd m w.heap ix iv) (hE : Ex P (indexPtr τ t x ix) u m v m' A W) :
    m' = m ∧ ∃ vv, (Instr.indexAt t xv iv).run P w = .ok vv w ∧ AVok c hd m w.heap v vv := by
  unfold indexPtr at hE
  split at hE
  · rename_i e _ _ _ k i ht
    have hu := (hτ t _ ht).slice rfl w
    simp only [AVok] at hi
    subst hi
    split at hE
    · rename_i ei hei
      have hee := hτ e ei hei
      split at hE
      · split at hE
        · rename_i sz n cs hc
          obtain ⟨rfl, hs0⟩ := hc
          simp only [Ex] at hE
          obtain ⟨⟨h0, h1⟩, rfl, rfl, _, _⟩ := hE
          simp only [AVok, Rd] at hx
          obtain ⟨⟨hl, B, C, vs, rfl, k1, k2, k3, k4⟩, _⟩ := hx
          have hne : cs ≠ [] := by
            intro he
            rw [he] at hl
            have h2 : 0 < n * ei.size := Nat.mul_pos (by omega) hs0
            have h3 : (0 : Nat) = n * ei.size := hl.1
            omega
          obtain ⟨a, rfl, hs, hc⟩ := k4 hne
          refine ⟨rfl, _, run_indexAt hu hee a n C k i h0 h1 w, ?_⟩
          simp only [AVok]
          refine ⟨_, (vs.drop (i.toNat * ei.size)).take ei.size, rfl, by rw [add_block]; exact hs, RdL.take _ (RdL.drop _ k3), fun j y hj => ?_, hl.2.sub (fun t ht => List.mem_of_mem_drop (List.mem_of_mem_take ht))⟩
          rw [List.getElem?_take] at hj
          split at hj
          · rw [List.getElem?_drop] at hj
            rw [add_add]; exact hc _ y hj
          · cases hj
        · simp only [Ex] at hE
      · rename_i nm g
        obtain ⟨vv, n, cs, B, rfl, hm, hE⟩ := getRow_ok hE
        simp only [Ex] at hE
        obtain ⟨⟨h0, h1⟩, rfl, rfl, _, _⟩ := hE
        have hv := own_eq hx hm
        subst hv
        obtain ⟨B, C, k1, k2, k3, k4, _⟩ := slice_of_row (H.blk nm _ hm)
        obtain ⟨b, rfl⟩ := k4 (by omega)
        refine ⟨rfl, _, by rw [k1]; exact run_indexAt hu hee _ n C k i h0 h1 w, ?_⟩
        simp only [AVok]
        exact ⟨⟨_, rfl⟩, _, hm, Nat.le_refl _, fun _ => ⟨by omega, b, n, C, k1, by rw [add_zero_off, Nat.add_zero]⟩⟩
      · rename_i nm g off n
        obtain ⟨vv, N, cs, B, rfl, hm, hE⟩ := getRow_ok hE
        simp only [Ex] at hE
        obtain ⟨⟨h0, h1⟩, rfl, rfl, _, _⟩ := hE
        simp only [AVok] at hx
        obtain ⟨_, b0, hb0, hg, hk⟩ := hx
        rw [hm] at hb0; injection hb0 with hb0; subst hb0
        obtain ⟨q1, A, C, rfl, q2, q3, q4, _⟩ := hk rfl
        obtain ⟨b, N', C', q5, rfl⟩ := q4 (by omega)
        refine ⟨rfl, _, run_indexAt hu hee _ n C k i h0 h1 w, ?_⟩
        simp only [AVok]
        exact ⟨⟨_, rfl⟩, _, hm, Nat.le_refl _, fun _ => ⟨by omega, b, N', C', q5, by rw [add_off, Nat.add_zero, Nat.add_mul]⟩⟩
      · simp only [Ex] at hE
    · simp only [Ex] at hE
  · simp only [Ex] at hE

theorem indexVal_ok (hτ : TTok P τ) {t : Nat} {x ix : AV} {xv iv : Value} (hx : AVok c hd m w.heap x xv) (hi : AVok c hd m w.heap ix iv) (hE : Ex P (indexVal τ t x ix) u m v m' A W) :
    m' = m ∧ ∃ vv, (Instr.index t xv iv).run P w = .ok vv w ∧ AVok c hd m w.heap v vv := by
  unfold indexVal at hE
  split at hE
  · rename_i s k i
    simp only [AVok] at hx hi
    subst hx; subst hi
    split at hE
    · rename_i sh hk
      simp only [Ex] at hE
      obtain ⟨⟨h0, h1⟩, rfl, rfl, _, _⟩ := hE
      obtain ⟨d, hu, hd'⟩ := (hτ t _ hk).undR
      have hd2 : d = .string := by cases d <;> simp [kdOf] at hd' ; rfl
      subst hd2
      have hlt : i.toNat < s.size := by omega
      refine ⟨rfl, .int .u8 (strAt s i.toNat), ?_, by simp only [AVok]⟩
      have : s[i.toNat]? = some s[i.toNat] := by simp [hlt]
      simp only [Instr.index, Sem.run_bind, asIntOf, Sem.run_pure, Result.andThen_ok, run_underlying hu, h0, if_true, this]
      congr 2
      unfold strAt
      have h3 : s.data.toList.getD i.toNat 0 = s[i.toNat] := by
        have : i.toNat < s.data.toList.length := by simpa using hlt
        rw [List.getD_eq_getElem?_getD, List.getElem?_eq_getElem this]
        rfl
      rw [h3]
    · simp only [Ex] at hE
  · simp only [Ex] at hE

theorem lenVal_ok (hτ : TTok P τ) (H : HM c hd fp m w X) {t ty : Nat} {x : AV} {xv : Value} (hx : AVok c hd m w.heap x xv) (hE : Ex P (lenVal τ t x) u m v m' A W) :
    m' = m ∧ ∃ vv, (Builtin.len_ #[t] ty #[xv]).run P w = .ok vv w ∧ AVok c hd m w.heap v vv := by
  unfold lenVal at hE
  split at hE
  · rename_i ti ht
    have hti := hτ t ti ht
    obtain ⟨d, hu, hd'⟩ := hti.undR
    have hsl : ∀ e, ti.kd = .slice e → ∀ (B : Option Addr) (n C : Nat), (Builtin.len_ #[t] ty #[.slice B n C]).run P w = .ok (goInt n) w := fun e he B n C => by
      have := hti.slice he w
      simp [Builtin.len_, run_underlying this]
    split at hE
    · rename_i s hk
      rw [hk] at hd'
      have hd2 : d = .string := by cases d <;> simp [kdOf] at hd' ; rfl
      subst hd2
      simp only [Ex] at hE
      obtain ⟨rfl, rfl, _, _⟩ := hE
      simp only [AVok] at hx
      subst hx
      exact ⟨rfl, _, by simp [Builtin.len_, run_underlying hu]; rfl, by simp only [AVok, goInt]⟩
    · rename_i x e hk
      split at hE
      · simp only [Ex] at hE
        obtain ⟨rfl, rfl, _, _⟩ := hE
        simp only [AVok] at hx
        obtain ⟨B, rfl⟩ := hx
        exact ⟨rfl, _, hsl e hk _ _ _, by simp [AVok, goInt]⟩
      · simp only [Ex] at hE
        obtain ⟨rfl, rfl, _, _⟩ := hE
        simp only [AVok, Rd] at hx
        obtain ⟨⟨_, B, C, vs, rfl, _⟩, _⟩ := hx
        exact ⟨rfl, _, hsl e hk _ _ _, by simp [AVok, goInt]⟩
      · simp only [Ex] at hE
        obtain ⟨rfl, rfl, _, _⟩ := hE
        simp only [AVok] at hx
        obtain ⟨⟨B, C, rfl, _⟩, _⟩ := hx
        exact ⟨rfl, _, hsl e hk _ _ _, by simp [AVok, goInt]⟩
      · rename_i nm g
        simp only [Ex] at hE
        obtain ⟨B, rfl, hE⟩ := hE
        split at hE
        · rename_i g' vv sz n cs hm
          split at hE
          · rename_i hg
            subst hg
            simp only [Ex] at hE
            obtain ⟨rfl, rfl, _, _⟩ := hE
            have hv := own_eq hx hm
            subst hv
            obtain ⟨B, C, k1, _⟩ := slice_of_row (H.blk nm _ hm)
            exact ⟨rfl, _, by rw [k1]; exact hsl e hk _ _ _, by simp [AVok, goInt]⟩
          · simp only [Ex] at hE
        · simp only [Ex] at hE
      · rename_i nm g i j vv
        split at hE
        · rename_i ei hei
          obtain ⟨sz', n, cs, n2, cs2, B, rfl, hm, hi, hj, hL, hE, g0, cap, cur, e', fr, G, k1, k2, k3, k4, k5, k6, k7, k8, k9, k10, k11⟩ := getInn_ok H hx hE
          simp only [Ex] at hE
          obtain ⟨rfl, rfl, _, _⟩ := hE
          rw [el_get _ _ _ _ hj] at hL
          obtain ⟨v0, G1, q1, q2, _⟩ := OwL.get k7 hL
          rw [k11] at q1; injection q1 with q1; subst q1
          obtain ⟨B, C, r1, _⟩ := slice_of_row q2
          exact ⟨rfl, _, by rw [r1]; exact hsl e hk _ _ _, by simp [AVok, goInt]⟩
        · simp only [Ex] at hE
      · simp only [Ex] at hE
    · simp only [Ex] at hE
  · simp only [Ex] at hE
end
end Go.AM
/- AN ABSTRACT MACHINE, 10: numbers, strings, cuts, conversions, structs made. No condition of its own. -/
namespace Go.AM
open Go AM

section
variable {P : Program} {c : Ctx} {hd : Nat → Value} {fp : Nat → List Nat} {m m' : Mem} {w : World} {X : List Nat} {u : Nat → Bool} {A W : List Nat} {v : AV} {τ : TTab}

/-! ### numbers and strings -/
theorem bitsI_ok {op : BinOp} {k : IntKind} {a b r : Int} (h : bitsI op k a b = some r) : Op.intBits op k a b = .pure (.int k r) := by
  unfold bitsI at h
  cases op <;> first | (injection h with h; subst h; rfl) | (cases h)
theorem binI_ok {op : BinOp} {k k' : IntKind} {a b : Int} {t : Nat} (hk : k = k' ∨ op = .shl ∨ op = .shr) (hE : Ex P (binI op k a b) u m v m' A W) :
    m' = m ∧ ∃ vv, (Go.binOp op t (.int k a) (.int k' b)).run P w = .ok vv w ∧ AVok c hd m w.heap v vv := by
  have hkk : op ≠ .shl → op ≠ .shr → k = k' := fun h1 h2 => by
    rcases hk with h | h | h
    · exact h
    · exact absurd h h1
    · exact absurd h h2
  cases op <;> simp only [binI, Ex] at hE
  case shl =>
    obtain ⟨h0, rfl, rfl, _, _⟩ := hE
    have : ¬ b < 0 := by omega
    exact ⟨rfl, _, by simp [Go.binOp, Op.shift, this]; rfl, by simp only [AVok]⟩
  case shr =>
    obtain ⟨h0, rfl, rfl, _, _⟩ := hE
    have : ¬ b < 0 := by omega
    exact ⟨rfl, _, by simp [Go.binOp, Op.shift, this]; rfl, by simp only [AVok]⟩
  case quo =>
    obtain ⟨h0, rfl, rfl, _, _⟩ := hE
    have := hkk (by simp) (by simp); subst this
    exact ⟨rfl, _, by simp [Go.binOp, Op.intDiv, h0]; rfl, by simp only [AVok]⟩
  case rem =>
    obtain ⟨h0, rfl, rfl, _, _⟩ := hE
    have := hkk (by simp) (by simp); subst this
    exact ⟨rfl, _, by simp [Go.binOp, Op.intDiv, h0]; rfl, by simp only [AVok]⟩
  case and | or | xor | andNot =>
    have := hkk (by simp) (by simp); subst this
    split at hE
    · rename_i r hr
      simp only [Ex] at hE
      obtain ⟨rfl, rfl, _, _⟩ := hE
      exact ⟨rfl, _, by simp [Go.binOp, bitsI_ok hr]; rfl, by simp only [AVok]⟩
    · simp only [Ex] at hE
  all_goals
    obtain ⟨rfl, rfl, _, _⟩ := hE
    have := hkk (by simp) (by simp); subst this
    exact ⟨rfl, _, by simp [Go.binOp, Op.intArith, Op.intCmp]; rfl, by simp only [AVok]⟩
theorem binS_ok {op : BinOp} {a b : ByteArray} {t : Nat} (hE : Ex P (binS op a b) u m v m' A W) :
    m' = m ∧ ∃ vv, (Go.binOp op t (.string a) (.string b)).run P w = .ok vv w ∧ AVok c hd m w.heap v vv := by
  cases op <;> simp only [binS, Ex] at hE
  case add =>
    obtain ⟨h0, rfl, rfl, _, _⟩ := hE
    have : ¬ ((a.size + b.size : Nat) : Int) > IntKind.i64.max := by omega
    exact ⟨rfl, _, by simp only [Go.binOp, Op.stringOp, this, if_false]; rfl, by simp only [AVok]⟩
  all_goals
    obtain ⟨rfl, rfl, _, _⟩ := hE
    exact ⟨rfl, _, rfl, by simp only [AVok]⟩
theorem guard_int {op : BinOp} {t : Nat} {x y : Operand} {k k' : IntKind} {a b : Int} : (Go.eqGuard op t x y (.int k a) (.int k' b)).run P w = .ok () w := by
  cases op <;> rfl
theorem guard_str {op : BinOp} {t : Nat} {x y : Operand} {a b : ByteArray} : (Go.eqGuard op t x y (.string a) (.string b)).run P w = .ok () w := by
  cases op <;> rfl
theorem eq_bool {t : Nat} (hu : P.underlying t = some .bool) (a b : Bool) : (Op.equal t (.bool a) (.bool b)).run P w = .ok (a == b) w := by
  unfold Op.equal
  generalize hd : Op.maxDepth = d
  cases d with
  | zero => exact absurd hd (by unfold Op.maxDepth; decide)
  | succ d => simp only [Op.equalIn, Sem.run_bind, run_underlying hu w, Result.andThen_ok, Sem.run_pure]
theorem eq_nil {t e : Nat} (hu : P.underlying t = some (.slice e)) (B : Option Addr) (n C : Nat) : (Op.equal t (.slice B n C) (.slice none 0 0)).run P w = .ok B.isNone w := by
  unfold Op.equal
  generalize hd : Op.maxDepth = d
  cases d with
  | zero => exact absurd hd (by unfold Op.maxDepth; decide)
  | succ d => cases B <;> simp only [Op.equalIn, Sem.run_bind, run_underlying hu w, Result.andThen_ok, Sem.run_pure, Option.isNone]
theorem bin_ok (hτ : TTok P τ) {op : BinOp} {t : Nat} {ox oy : Operand} {x y : AV} {xv yv : Value} (hx : AVok c hd m w.heap x xv) (hy : AVok c hd m w.heap y yv) (hE : Ex P (bin τ t op x y) u m v m' A W) :
    m' = m ∧ ∃ vv, (do Go.eqGuard op t ox oy xv yv; Go.binOp op t xv yv : Sem Value).run P w = .ok vv w ∧ AVok c hd m w.heap v vv := by
  unfold bin at hE
  split at hE
  · rename_i a b
    simp only [AVok] at hx hy
    subst hx; subst hy
    split at hE
    · rename_i ht
      obtain ⟨d, hu, hd'⟩ := (hτ t _ ht).undR
      have hu : P.underlying t = some .bool := by
        cases d <;> simp [kdOf] at hd'
        exact hu
      have h1 := run_underlying hu w
      split at hE
      all_goals first
        | (simp only [Ex] at hE
           obtain ⟨rfl, rfl, _, _⟩ := hE
           exact ⟨rfl, _, by simp only [Go.eqGuard, Go.binOp, Sem.run_bind, eq_bool hu, Result.andThen_ok, Sem.run_pure]; rfl, by simp only [AVok]⟩)
        | simp only [Ex] at hE
    · simp only [Ex] at hE
  · rename_i k a k' b
    simp only [AVok] at hx hy
    subst hx; subst hy
    have fin : ∀ {hk : k = k' ∨ op = .shl ∨ op = .shr}, Ex P (binI op k a b) u m v m' A W → m' = m ∧ ∃ vv, (do Go.eqGuard op t ox oy (.int k a) (.int k' b); Go.binOp op t (.int k a) (.int k' b) : Sem Value).run P w = .ok vv w ∧ AVok c hd m w.heap v vv := by
      intro hk hE
      obtain ⟨h1, vv, h2, h3⟩ := binI_ok (c := c) (hd := hd) (w := w) (t := t) hk hE
      exact ⟨h1, vv, by rw [Sem.run_bind, guard_int, Result.andThen_ok]; exact h2, h3⟩
    split at hE
    · exact fin (hk := .inr (.inl rfl)) hE
    · exact fin (hk := .inr (.inr rfl)) hE
    · split at hE
      · rename_i hk; exact fin (hk := .inl hk) hE
      · simp only [Ex] at hE
  · rename_i a b
    simp only [AVok] at hx hy
    subst hx; subst hy
    obtain ⟨h1, vv, h2, h3⟩ := binS_ok (c := c) (hd := hd) (w := w) (t := t) hE
    exact ⟨h1, vv, by rw [Sem.run_bind, guard_str, Result.andThen_ok]; exact h2, h3⟩
  · simp only [Ex] at hE
theorem una_ok {op : UnOp} {x : AV} {xv : Value} (hx : AVok c hd m w.heap x xv) (hE : Ex P (una op x) u m v m' A W) :
    m' = m ∧ ∃ vv, (Op.unary op xv).run P w = .ok vv w ∧ AVok c hd m w.heap v vv := by
  unfold una at hE
  split at hE
  · simp only [AVok] at hx; subst hx
    simp only [Ex] at hE
    obtain ⟨rfl, rfl, _, _⟩ := hE
    exact ⟨rfl, _, rfl, by simp only [AVok]⟩
  · simp only [AVok] at hx; subst hx
    simp only [Ex] at hE
    obtain ⟨rfl, rfl, _, _⟩ := hE
    exact ⟨rfl, _, rfl, by simp only [AVok]⟩
  · simp only [AVok] at hx; subst hx
    split at hE
    · rename_i r hr
      simp only [Ex] at hE
      obtain ⟨rfl, rfl, _, _⟩ := hE
      exact ⟨rfl, _, by simp [Op.unary, bitsI_ok hr]; rfl, by simp only [AVok]⟩
    · simp only [Ex] at hE
  · simp only [Ex] at hE
theorem pick_ok {x y z : AV} {xv yv zv : Value} (hx : AVok c hd m w.heap x xv) (hy : AVok c hd m w.heap y yv) (hz : AVok c hd m w.heap z zv) (hE : Ex P (pickA x y z) u m v m' A W) :
    m' = m ∧ ∃ vv, (do pure (if ← asBool xv then yv else zv) : Sem Value).run P w = .ok vv w ∧ AVok c hd m w.heap v vv := by
  unfold pickA at hE
  split at hE
  · rename_i b
    simp only [AVok] at hx; subst hx
    simp only [Ex] at hE
    obtain ⟨rfl, rfl, _, _⟩ := hE
    refine ⟨rfl, _, by simp [asBool]; rfl, ?_⟩
    cases b
    · exact hz
    · exact hy
  · simp only [Ex] at hE
theorem minmax_ok {mx : Bool} : ∀ {xs : List AV} {x : AV} {xv : Value} {vs : List Value}, AVok c hd m w.heap x xv → AVokL c hd m w.heap xs vs → Ex P (minmaxA mx x xs) u m v m' A W →
    m' = m ∧ ∃ vv, (vs.foldlM (if mx then Builtin.max2 else Builtin.min2) xv).run P w = .ok vv w ∧ AVok c hd m w.heap v vv
  | [], x, xv, vs, hx, hl, hE => by
    simp only [AVokL] at hl; subst hl
    unfold minmaxA at hE
    simp only [Ex] at hE
    obtain ⟨rfl, rfl, _, _⟩ := hE
    exact ⟨rfl, xv, by simp, hx⟩
  | y :: ys, x, xv, vs, hx, hl, hE => by
    simp only [AVokL] at hl
    obtain ⟨yv, us, rfl, h1, h2⟩ := hl
    cases x <;> cases y <;> simp only [minmaxA, Ex] at hE
    rename_i k a k' b
    simp only [AVok] at hx h1
    subst hx; subst h1
    obtain ⟨r1, vv, r2, r3⟩ := minmax_ok (mx := mx) (xv := .int k (if mx then (if a < b then b else a) else if b < a then b else a)) (by simp only [AVok]) h2 hE
    refine ⟨r1, vv, ?_, r3⟩
    rw [List.foldlM_cons, Sem.run_bind]
    cases mx <;> simpa [Builtin.max2, Builtin.min2] using r2

/-! ### a new variable -/
theorem zeroAV : ∀ (sh : List CK), AVokL c hd m w.heap (sh.map CK.av) (sh.map CK.zero) ∧ ∀ x, x ∈ sh.map CK.zero → x.oneCell' = true
  | [] => by simp [AVokL]
  | k :: ks => by
    obtain ⟨h1, h2⟩ := zeroAV ks
    simp only [List.map_cons, AVokL]
    refine ⟨⟨_, _, rfl, ?_, h1⟩, fun x hx => ?_⟩
    · cases k with
      | sc z => cases z <;> simp only [CK.av, CK.zero, AVok]
      | sl sz => simp only [CK.av, CK.zero, AVok]; exact ⟨none, rfl⟩
      | pt t => simp only [CK.av, AVok]
    · rcases List.mem_cons.1 hx with rfl | hx
      · cases k with
        | sc z => cases z <;> rfl
        | sl sz => rfl
        | pt t => rfl
      · exact h2 x hx
theorem zeroV_cells {t : Nat} {i : TI} (h : TI.Ok P t i) : i.zeroV.cells.toList = i.sh.map CK.zero := by
  unfold TI.zeroV
  split
  · rfl
  · rename_i hk
    have h1 := h.one (by simpa using hk)
    have h2 := h.len
    match hsh : i.sh, h2 with
    | [k], _ =>
      simp only [List.map_cons, List.map_nil, List.headD_cons]
      cases k with
      | sc z => cases z <;> rfl
      | sl sz => rfl
      | pt t => rfl
    | [], h2 => simp at h2; omega
    | _ :: _ :: _, h2 => simp at h2; omega
theorem newBox_ok (H : HM c hd fp m w X) {D t e : Nat} {xs : List AV} {cur : Array Value} (hx : AVokL c hd m w.heap xs cur.toList) (h1 : ∀ y, y ∈ cur.toList → y.oneCell' = true) (hE : Ex P (mk D (fun g => .box g t xs) fun g => .ret (.ptr D g 0 0)) u m v m' A W) :
    ∃ hd' fp', AVok c hd' m' (pushW w (.cells cur e)).heap v (.pointer (some ⟨w.heap.size, 0, none⟩)) ∧ HM c hd' fp' m' (pushW w (.cells cur e)) X ∧ Evo hd m w.heap hd' m' (pushW w (.cells cur e)).heap := by
  obtain ⟨g, B, V, hE, hg⟩ := mk_ok hE
  simp only [Ex] at hE
  obtain ⟨rfl, rfl, _, _⟩ := hE
  obtain ⟨h2, h3⟩ := HM.new H (.cells cur e) D (blk := .box g t xs) (v := .pointer (some ⟨w.heap.size, 0, none⟩)) hg (fun E ho => by
    simp only [BlkOk, upd_same]
    exact ⟨w.heap.size, cur, e, (0, 0), rfl, ho, .inl (Nat.le_refl _), AVokL.evo E xs hx, h1, rfl⟩)
  exact ⟨_, _, ptr_new, h2, h3⟩
theorem alloc_ok (hτ : TTok P τ) (H : HM c hd fp m w X) {D t : Nat} {ti : TI} (ht : τ t = some ti) (hE : Ex P (mk D (fun g => .box g t (ti.sh.map CK.av)) fun g => .ret (.ptr D g 0 0)) u m v m' A W) :
    ∃ vv w' hd' fp', (Instr.alloc t true (.tuple #[])).run P w = .ok vv w' ∧ AVok c hd' m' w'.heap v vv ∧ HM c hd' fp' m' w' X ∧ Evo hd m w.heap hd' m' w'.heap := by
  have hti := hτ t ti ht
  obtain ⟨z1, z2⟩ := zeroAV (c := c) (hd := hd) (m := m) (w := w) ti.sh
  obtain ⟨hd', fp', h1, h2, h3⟩ := newBox_ok (e := t) H (cur := ti.zeroV.cells) (by rw [zeroV_cells hti]; exact z1) (by rw [zeroV_cells hti]; exact z2) hE
  exact ⟨_, _, hd', fp', by simp only [Instr.alloc, Sem.run_bind, hti.zeroR, Result.andThen_ok, newVar, newRow, run_newObj, Sem.run_pure]; rfl, h1, h2, h3⟩
theorem box_ok (H : HM c hd fp m w X) {D t : Nat} {x : AV} {xv : Value} (hx : AVok c hd m w.heap x xv) (hk : x.known = true) (hE : Ex P (mk D (fun g => .box g t x.cells) fun g => .ret (.ptr D g 0 0)) u m v m' A W) :
    ∃ vv w' hd' fp', (Instr.box t xv).run P w = .ok vv w' ∧ AVok c hd' m' w'.heap v vv ∧ HM c hd' fp' m' w' X ∧ Evo hd m w.heap hd' m' w'.heap := by
  obtain ⟨c1, c2⟩ := AVok.cells hx hk
  obtain ⟨hd', fp', h1, h2, h3⟩ := newBox_ok (e := t) H (cur := xv.cells) c1 c2 hE
  exact ⟨_, _, hd', fp', by simp only [Instr.box, Sem.run_bind, Result.andThen_ok, newVar, newRow, run_newObj, Sem.run_pure]; rfl, h1, h2, h3⟩
end
end Go.AM
/- AN ABSTRACT MACHINE, 11: what a slice holds; cuts; conversions; structs and slices made. No condition of its own. -/
namespace Go.AM
open Go AM

def AV.name : AV → Option Nat
  | .own nm _ | .cut nm _ _ _ | .inn nm _ _ _ _ => some nm
  | _ => none

section
variable {P : Program} {c : Ctx} {hd : Nat → Value} {fp : Nat → List Nat} {m m' : Mem} {w : World} {X : List Nat} {u : Nat → Bool} {A W : List Nat} {v : AV} {τ : TTab}

/-- what is known of a slice that is read: its cells, and what they say -/
def Reads (c : Ctx) (fp : Nat → List Nat) (w : World) (x : AV) (xv : Value) (sz n : Nat) (cs : List Tr) : Prop :=
  ∃ B C vs, xv = .slice B n C ∧ n ≤ C ∧ C ≤ maxL ∧ (cs.length = n * sz ∧ cells1 cs) ∧ vs.length = cs.length ∧
    (cs ≠ [] → ∃ a, B = some a ∧ (∀ j y, vs[j]? = some y → cellAt w.heap (a.add j) = some y) ∧ ((AV.isRo x = true ∧ c.safe a.block) ∨ ∃ nm, x.name = some nm ∧ a.block ∈ fp nm)) ∧
    ((AV.isRo x = true ∧ RdL c.w0.heap c.safe cs vs) ∨ ∃ nm G, x.name = some nm ∧ OwL w.heap c.tags cs vs G ∧ ∀ k, k ∈ G → k ∈ fp nm)

theorem row_reads {x : AV} {nm : Nat} (hn : x.name = some nm) {sz n : Nat} {cs : List Tr} {xv : Value} {F : List Nat} (H : Ow w.heap c.tags (.row sz n cs) xv F) (hF : ∀ k, k ∈ F → k ∈ fp nm) : Reads c fp w x xv sz n cs := by
  simp only [Ow] at H
  obtain ⟨hl, H⟩ := H
  rcases H with ⟨B, rfl, rfl, rfl⟩ | ⟨g, cap, cur, e, fr, G, rfl, h2, h3, h4, h5, h6, h7, rfl⟩
  · have : cs = [] := List.length_eq_zero_iff.1 (by simpa using hl.1)
    subst this
    exact ⟨B, 0, [], rfl, Nat.le_refl _, by unfold maxL; omega, hl, rfl, fun h => absurd rfl h, .inr ⟨nm, [], hn, by simp [OwL], fun k hk => by cases hk⟩⟩
  · refine ⟨_, cap, _, rfl, h5, h6, hl, OwL.length h7, fun _ => ⟨_, rfl, fun j y hj => ?_, .inr ⟨nm, hn, hF _ (by simp)⟩⟩, .inr ⟨nm, G, hn, h7, fun k hk => hF k (by simp [hk])⟩⟩
    rw [add_zero_off, cellAt_of h2, ← Array.getElem?_toList]
    rw [List.getElem?_take] at hj
    split at hj
    · exact hj
    · cases hj

theorem rdRow_ok {α : Type} {y : α} (H : HM c hd fp m w X) {sz : Nat} {x : AV} {xv : Value} {k : Nat → List Tr → AM α} (hx : AVok c hd m w.heap x xv) (hE : Ex P (rdRow sz x k) u m y m' A W) :
    ∃ n cs A1, Ex P (k n cs) u m y m' A1 W ∧ Reads c fp w x xv sz n cs := by
  unfold rdRow at hE
  split at hE
  · simp only [AVok] at hx
    obtain ⟨B, rfl⟩ := hx
    exact ⟨0, [], A, hE, B, 0, [], rfl, Nat.le_refl _, by unfold maxL; omega, by simp [cells1], rfl, fun h => absurd rfl h, .inl ⟨rfl, by simp [RdL]⟩⟩
  · rename_i tg sz' n cs
    split at hE
    · rename_i hs
      subst hs
      simp only [AVok, Rd] at hx
      obtain ⟨⟨hl, B, C, vs, rfl, k1, k2, k3, k4⟩, _⟩ := hx
      refine ⟨n, cs, A, hE, B, C, vs, rfl, k1, k2, hl, RdL.length k3, fun hne => ?_, .inl ⟨rfl, k3⟩⟩
      obtain ⟨a, rfl, hs, hc⟩ := k4 hne
      exact ⟨a, rfl, fun j y hj => (cellAt_frame (by rw [add_block]; exact H.same _ hs)).trans (hc j y hj), .inl ⟨rfl, hs⟩⟩
    · simp only [Ex] at hE
  · rename_i nm g
    obtain ⟨vv, n, cs, B, rfl, hm, hE⟩ := getRow_ok hE
    have hv := own_eq hx hm
    subst hv
    exact ⟨n, cs, B, hE, row_reads rfl (H.blk nm _ hm) (fun k hk => hk)⟩
  · rename_i nm g off n
    obtain ⟨vv, N, cs, B, rfl, hm, hE⟩ := getRow_ok hE
    simp only [Ex] at hE
    refine ⟨n, _, B, hE, ?_⟩
    simp only [AVok] at hx
    obtain ⟨⟨A0, C0, hv0, hv1, hv2⟩, b0, hb0, hg, hk⟩ := hx
    rw [hm] at hb0; injection hb0 with hb0; subst hb0
    obtain ⟨q1, A, C, hv, q2, q3, q4, _⟩ := hk rfl
    have hblk := H.blk nm _ hm
    simp only [BlkOk] at hblk
    have hlc : cs.length = N * sz ∧ cells1 cs := by simp only [Ow] at hblk; exact hblk.1
    have hmul : (off + n) * sz ≤ N * sz := Nat.mul_le_mul_right _ q1
    rw [Nat.add_mul] at hmul
    have hl2 : ((cs.drop (off * sz)).take (n * sz)).length = n * sz := by rw [List.length_take, List.length_drop]; omega
    have h1c : cells1 ((cs.drop (off * sz)).take (n * sz)) := hlc.2.sub (fun t ht => List.mem_of_mem_drop (List.mem_of_mem_take ht))
    rcases Nat.eq_zero_or_pos n with h0 | h0
    · subst h0
      rw [Nat.zero_mul, List.take_zero]
      exact ⟨A, C, [], hv, q2, q3, ⟨by simp, fun t ht => by cases ht⟩, rfl, fun h => absurd rfl h, .inr ⟨nm, [], rfl, by simp [OwL], fun k hk => by cases hk⟩⟩
    · obtain ⟨b, N', C', q5, rfl⟩ := q4 h0
      obtain ⟨b', cap, cur, e, fr, G, k1, k2, k3, k4, k5, k6, k7, k8⟩ := row_block hblk (by omega)
      have hbb : b = b' := by rw [k1] at q5; injection q5 with q5; injection q5 with q5; injection q5 with q5; exact q5.symm
      subst hbb
      obtain ⟨G1, r1⟩ := OwL.drop (off * sz) k7
      obtain ⟨G2, r2⟩ := OwL.take (n * sz) r1
      -- the blocks of a part are blocks of the whole
      have hsub : ∀ {ts : List Tr} {vs : List Value} {F : List Nat} (a b : Nat), OwL w.heap c.tags ts vs F → ∃ G, OwL w.heap c.tags ((ts.drop a).take b) ((vs.drop a).take b) G ∧ ∀ k, k ∈ G → k ∈ F := by
        intro ts vs F a b hh
        have lv := OwL.length hh
        have e1 : ts = ts.take a ++ ((ts.drop a).take b ++ (ts.drop a).drop b) := by rw [List.take_append_drop, List.take_append_drop]
        rw [e1] at hh
        obtain ⟨v1, v2, F1, F2, rfl, rfl, h1, h2⟩ := OwL.split hh
        obtain ⟨v3, v4, F3, F4, rfl, rfl, h3, h4⟩ := OwL.split h2
        have l1 := OwL.length h1
        have l3 := OwL.length h3
        have l4 := OwL.length h4
        rw [List.length_take] at l1
        rw [List.length_take, List.length_drop] at l3
        rw [List.length_drop, List.length_drop] at l4
        refine ⟨F3, ?_, fun k hk => by simp [hk]⟩
        have t1 : (v1 ++ (v3 ++ v4)).drop a = v3 ++ v4 := by
          by_cases h : a ≤ ts.length
          · exact List.drop_left' (by omega)
          · have a1 : v3 = [] := List.length_eq_zero_iff.1 (by omega)
            have a2 : v4 = [] := List.length_eq_zero_iff.1 (by omega)
            subst a1; subst a2
            rw [List.append_nil, List.append_nil]
            exact List.drop_eq_nil_of_le (by omega)
        have t2 : (v3 ++ v4).take b = v3 := by
          by_cases h : b ≤ ts.length - a
          · exact List.take_left' (by omega)
          · have a2 : v4 = [] := List.length_eq_zero_iff.1 (by omega)
            subst a2
            rw [List.append_nil]
            exact List.take_of_length_le (by omega)
        rw [t1, t2]
        exact h3
      obtain ⟨G3, r3, r4⟩ := hsub (off * sz) (n * sz) k7
      refine ⟨_, C, _, hv, q2, q3, ⟨hl2, h1c⟩, OwL.length r3, fun _ => ⟨_, rfl, fun j y hj => ?_, .inr ⟨nm, rfl, by rw [k8]; simp⟩⟩, .inr ⟨nm, G3, rfl, r3, fun k hk => by rw [k8]; exact List.mem_cons_of_mem _ (r4 k hk)⟩⟩
      rw [add_off, cellAt_of k2, ← Array.getElem?_toList]
      rw [List.getElem?_take] at hj
      split at hj
      · rw [List.getElem?_drop, List.getElem?_take] at hj
        split at hj
        · exact hj
        · cases hj
      · cases hj
  · rename_i nm g i j vv
    obtain ⟨sz', N, cs, n2, cs2, B, rfl, hm, hi, hj, hL, hE, g0, cap, cur, e, fr, G, k1, k2, k3, k4, k5, k6, k7, k8, k9, k10, k11⟩ := getInn_ok H hx hE
    rw [el_get _ _ _ _ hj] at hL
    obtain ⟨v0, G1, q1, q2, q3⟩ := OwL.get k7 hL
    rw [k11] at q1; injection q1 with q1; subst q1
    exact ⟨n2, cs2, B, hE, row_reads rfl q2 (fun k hk => by rw [k8]; exact List.mem_cons_of_mem _ (q3 k hk))⟩
  · simp only [Ex] at hE

/-- scalars are theirs who reads them -/
theorem Ow_scal {h : Heap} {tg : List Value} {S : Nat → Prop} {h0 : Heap} : ∀ {cs : List Tr} {vs : List Value}, scal cs → RdL h0 S cs vs → OwL h tg cs vs []
  | [], vs, _, H => by simp only [RdL] at H; simp [OwL, H]
  | t :: ts, vs, hs, H => by
    simp only [RdL] at H
    obtain ⟨x, us, rfl, q1, q2⟩ := H
    simp only [OwL]
    refine ⟨x, us, [], [], rfl, ?_, Ow_scal (fun t' h' => hs t' (List.mem_cons_of_mem _ h')) q2, rfl⟩
    have := hs t (by simp)
    cases t <;> simp [Tr.isSc] at this <;> simp only [Rd] at q1 <;> simp [Ow, q1]
theorem Ow_scal' {h : Heap} {tg : List Value} : ∀ {cs : List Tr} {vs : List Value} {G : List Nat}, scal cs → OwL h tg cs vs G → OwL h tg cs vs []
  | [], vs, G, _, H => by simp only [OwL] at H; simp [OwL, H.1]
  | t :: ts, vs, G, hs, H => by
    simp only [OwL] at H
    obtain ⟨x, us, F1, F2, rfl, q1, q2, _⟩ := H
    simp only [OwL]
    refine ⟨x, us, [], [], rfl, ?_, Ow_scal' (fun t' h' => hs t' (List.mem_cons_of_mem _ h')) q2, rfl⟩
    have := hs t (by simp)
    cases t <;> simp [Tr.isSc] at this <;> simp only [Ow] at q1 <;> simp [Ow, q1.1]

/-! ### a part of a tuple -/
theorem extract_ok {i : Nat} {x : AV} {xv : Value} (hx : AVok c hd m w.heap x xv) (hE : Ex P (match x with
    | .tup cs => match cs[i]? with
      | some x => .ret x
      | none => .fail
    | _ => AM.fail) u m v m' A W) : m' = m ∧ ∃ vv, (Instr.extract xv i).run P w = .ok vv w ∧ AVok c hd m w.heap v vv := by
  cases x <;> simp only [Ex] at hE
  case tup cs =>
    simp only [AVok] at hx
    obtain ⟨vs, rfl, h2⟩ := hx
    split at hE
    · rename_i x hx
      simp only [Ex] at hE
      obtain ⟨rfl, rfl, _, _⟩ := hE
      obtain ⟨vv, q1, q2⟩ := AVokL.get h2 hx
      rw [Array.getElem?_toList] at q1
      exact ⟨rfl, vv, by simp [Instr.extract, q1], q2⟩
    · simp only [Ex] at hE

/-! ### cuts -/
def optInt : Option AV → Option Value → Prop
  | none, none => True
  | some (.int k n), some x => x = .int k n
  | _, _ => False
theorem oint_ok {o : Option AV} {ov : Option Value} {d n : Int} (h : oint o d = some n) (ho : ∀ x, o = some x → ∃ y, ov = some y ∧ AVok c hd m w.heap x y) (hn : o = none → ov = none) : (o = none ∧ ov = none ∧ n = d) ∨ ∃ k, o = some (.int k n) ∧ ov = some (.int k n) := by
  cases o with
  | none => simp only [oint, Option.some.injEq] at h; exact .inl ⟨rfl, hn rfl, h.symm⟩
  | some x =>
    cases x <;> simp only [oint, Option.some.injEq, reduceCtorEq] at h
    subst h
    obtain ⟨y, h1, h2⟩ := ho _ rfl
    simp only [AVok] at h2
    subst h2
    exact .inr ⟨_, rfl, h1⟩
theorem run_bounds {isSlice : Bool} {len cap : Nat} {lo hi : Option AV} {lov hiv : Option Value} {l h : Int} (hl : oint lo 0 = some l) (hh : oint hi len = some h)
    (h1 : ∀ x, lo = some x → ∃ y, lov = some y ∧ AVok c hd m w.heap x y) (h2 : lo = none → lov = none) (h3 : ∀ x, hi = some x → ∃ y, hiv = some y ∧ AVok c hd m w.heap x y) (h4 : hi = none → hiv = none)
    (b0 : 0 ≤ l) (b1 : l ≤ h) (b2 : h ≤ (len : Int)) (b3 : len ≤ cap) : (Instr.sliceBounds isSlice len cap lov hiv none).run P w = .ok (l.toNat, h.toNat, cap) w := by
  have hhn : (h.toNat : Int) = h := Int.toNat_of_nonneg (by omega)
  rcases oint_ok hl h1 h2 with ⟨_, rfl, rfl⟩ | ⟨k, _, rfl⟩ <;> rcases oint_ok hh h3 h4 with ⟨_, rfl, rfl⟩ | ⟨k', _, rfl⟩
  · simp [Instr.sliceBounds]
  · have e1 : (Instr.sliceBound (.int k' h) cap (if isSlice then .sliceAcap else .sliceAlen)).run P w = .ok h.toNat w := run_sliceBound w k' h cap _ (by omega) (by omega)
    simp [Instr.sliceBounds, e1]
  · have e1 : ∀ code, (Instr.sliceBound (.int k l) len code).run P w = .ok l.toNat w := fun code => run_sliceBound w k l len code b0 (by omega)
    simp [Instr.sliceBounds, e1]
  · have e1 : (Instr.sliceBound (.int k' h) cap (if isSlice then .sliceAcap else .sliceAlen)).run P w = .ok h.toNat w := run_sliceBound w k' h cap _ (by omega) (by omega)
    have e2 : ∀ code, (Instr.sliceBound (.int k l) h.toNat code).run P w = .ok l.toNat w := fun code => run_sliceBound w k l h.toNat code b0 (by omega)
    simp [Instr.sliceBounds, e1, e2]
end
end Go.AM
/- AN ABSTRACT MACHINE, 12: cuts, conversions, structs made. No condition of its own. -/
namespace Go.AM
open Go AM

section
variable {P : Program} {c : Ctx} {hd : Nat → Value} {fp : Nat → List Nat} {m m' : Mem} {w : World} {X : List Nat} {u : Nat → Bool} {A W : List Nat} {v : AV} {τ : TTab}

theorem elemOf_ok (hτ : TTok P τ) {t : Nat} {ei : TI} (h : elemOf τ t = some ei) : ∃ e, P.underlying t = some (.slice e) ∧ TI.Ok P e ei := by
  unfold elemOf at h
  split at h
  · rename_i e _ _ _ ht
    exact ⟨e, (hτ t _ ht).slice rfl default, hτ e ei h⟩
  · cases h
theorem run_sliceAt {t e : Nat} {ei : TI} (hu : P.underlying t = some (.slice e)) (he : TI.Ok P e ei) {B : Option Addr} {n C l h : Nat} {lov hiv : Option Value} (hb : (Instr.sliceBounds true n C lov hiv none).run P w = .ok (l, h, C) w) :
    (Instr.sliceAt t (.slice B n C) lov hiv none).run P w = .ok (.slice (if C = l then B else B.map (·.add (l * ei.size))) (h - l) (C - l)) w := by
  simp only [Instr.sliceAt, Sem.run_bind, run_underlying hu, Result.andThen_ok, Instr.slice, hb, he.size, Sem.run_pure]
theorem sliceVal_ok (hτ : TTok P τ) (H : HM c hd fp m w X) {t : Nat} {x : AV} {xv : Value} {lo hi : Option AV} {lov hiv : Option Value} (hx : AVok c hd m w.heap x xv)
    (h1 : ∀ x, lo = some x → ∃ y, lov = some y ∧ AVok c hd m w.heap x y) (h2 : lo = none → lov = none) (h3 : ∀ x, hi = some x → ∃ y, hiv = some y ∧ AVok c hd m w.heap x y) (h4 : hi = none → hiv = none)
    (hE : Ex P (sliceVal τ t x lo hi none) u m v m' A W) : m' = m ∧ ∃ vv, (Instr.sliceAt t xv lov hiv none).run P w = .ok vv w ∧ AVok c hd m w.heap v vv := by
  unfold sliceVal at hE
  simp only at hE
  split at hE
  · rename_i s
    simp only [AVok] at hx; subst hx
    split at hE
    · rename_i hk
      obtain ⟨d, hu, hd'⟩ := (hτ t _ hk).undR
      have hd2 : d = .string := by cases d <;> simp [kdOf] at hd' ; rfl
      subst hd2
      split at hE
      · rename_i l h hl hh
        simp only [Ex] at hE
        obtain ⟨⟨b0, b1, b2⟩, rfl, rfl, _, _⟩ := hE
        have := run_bounds (P := P) (isSlice := false) (cap := s.size) hl hh h1 h2 h3 h4 b0 b1 b2 (Nat.le_refl _)
        exact ⟨rfl, _, by simp [Instr.sliceAt, Instr.slice, run_underlying hu, this]; rfl, by simp only [AVok]⟩
      · simp only [Ex] at hE
    · simp only [Ex] at hE
  · split at hE
    · simp only [Ex] at hE
    · rename_i ei hei
      obtain ⟨e, hu, he⟩ := elemOf_ok hτ hei
      split at hE
      · rename_i tg sz n cs _
        split at hE
        · rename_i l h hl hh
          split at hE
          · rename_i hs
            subst hs
            simp only [Ex] at hE
            obtain ⟨⟨b0, b1, b2⟩, rfl, rfl, _, _⟩ := hE
            simp only [AVok, Rd] at hx
            obtain ⟨⟨hlc, B, C, vs, rfl, k1, k2, k3, k4⟩, _⟩ := hx
            refine ⟨rfl, _, run_sliceAt hu he (run_bounds (isSlice := true) hl hh h1 h2 h3 h4 b0 b1 b2 k1), ?_⟩
            simp only [AVok]
            refine ⟨?_, fun k hk => by cases hk⟩
            simp only [Rd]
            have hln : l.toNat ≤ h.toNat := by omega
            have hhn : h.toNat ≤ n := by omega
            have hm1 : l.toNat * ei.size + (h.toNat - l.toNat) * ei.size = h.toNat * ei.size := by rw [← Nat.add_mul]; congr 1; omega
            have hm2 : h.toNat * ei.size ≤ n * ei.size := Nat.mul_le_mul_right _ hhn
            refine ⟨⟨by rw [List.length_take, List.length_drop, hlc.1]; omega, hlc.2.sub (fun t ht => List.mem_of_mem_drop (List.mem_of_mem_take ht))⟩, _, _, (vs.drop (l.toNat * ei.size)).take ((h.toNat - l.toNat) * ei.size), rfl, by omega, by omega, RdL.take _ (RdL.drop _ k3), fun hne => ?_⟩
            have hne2 : cs ≠ [] := fun he => hne (by rw [he]; simp)
            obtain ⟨a, rfl, hs, hc⟩ := k4 hne2
            have hlt : l.toNat < h.toNat := by
              rcases Nat.lt_or_ge l.toNat h.toNat with hh' | hh'
              · exact hh'
              · exact absurd (by rw [Nat.sub_eq_zero_of_le hh', Nat.zero_mul, List.take_zero]) hne
            refine ⟨a.add (l.toNat * ei.size), by rw [if_neg (by omega)]; rfl, by rw [add_block]; exact hs, fun j y hj => ?_⟩
            rw [List.getElem?_take] at hj
            split at hj
            · rw [List.getElem?_drop] at hj
              rw [add_add]; exact hc _ y hj
            · cases hj
          · simp only [Ex] at hE
        · simp only [Ex] at hE
      · rename_i nm g _
        obtain ⟨vv, n, cs, B0, rfl, hm, hE⟩ := getRow_ok hE
        split at hE
        · rename_i l h hl hh
          simp only [Ex] at hE
          obtain ⟨⟨b0, b1, b2⟩, rfl, rfl, _, _⟩ := hE
          have hv := own_eq hx hm
          subst hv
          obtain ⟨B, C, k1, k2, k3, k4, k5⟩ := slice_of_row (H.blk nm _ hm)
          refine ⟨rfl, _, by rw [k1]; exact run_sliceAt hu he (run_bounds (isSlice := true) hl hh h1 h2 h3 h4 b0 b1 b2 k2), ?_⟩
          simp only [AVok]
          refine ⟨⟨_, _, rfl, by omega, by omega⟩, _, hm, Nat.le_refl _, fun _ => ⟨by omega, _, _, rfl, by omega, by omega, fun h0 => ?_, fun h0 => ⟨n, ?_⟩⟩⟩
          · obtain ⟨b, rfl⟩ := k4 (by omega)
            exact ⟨b, n, C, k1, by rw [if_neg (by omega)]; simp [add_zero_off]⟩
          · rw [k1, h0, Nat.sub_zero]
            rcases Nat.eq_zero_or_pos C with hC | hC
            · rw [if_pos hC]
            · obtain ⟨b, rfl⟩ := k5 hC
              rw [if_neg (by omega)]; simp [add_zero_off]
        · simp only [Ex] at hE
      · simp only [Ex] at hE

/-! ### conversions -/
theorem bytes_vals {h : Heap} {tg : List Value} : ∀ {l : List Int} {vs : List Value} {G : List Nat}, OwL h tg (l.map (Tr.int .u8)) vs G → vs = l.map (Value.int .u8)
  | [], vs, G, H => by simp only [List.map_nil, OwL] at H; simp [H.1]
  | x :: l, vs, G, H => by
    simp only [List.map_cons, OwL] at H
    obtain ⟨y, us, F1, F2, rfl, q1, q2, _⟩ := H
    simp only [Ow] at q1
    rw [q1.1, bytes_vals q2]; rfl
theorem scal_ints (k : IntKind) (l : List Int) : scal (l.map (Tr.int k)) := by
  intro t ht
  obtain ⟨x, _, rfl⟩ := List.mem_map.1 ht
  rfl
theorem foldl_push : ∀ (l : List Int) (b : ByteArray), (l.foldl (fun r n => r.push (UInt8.ofNat n.toNat)) b) = ⟨(b.data.toList ++ (l.map (Tr.int .u8)).map byteTr).toArray⟩
  | [], b => by simp
  | x :: l, b => by
    rw [List.foldl_cons, foldl_push l]
    congr 2
    simp [ByteArray.push, byteTr]
theorem freeze_push (w : World) (cur : Array Value) (e : Nat) : (pushW w (.cells cur e (0, 0))).freeze ⟨w.heap.size, cur.size, none⟩ 1 = pushW w (.cells cur e (cur.size, cur.size + 1)) := by
  have : ((w.heap.push (Obj.cells cur e (0, 0))).modify w.heap.size fun
      | .cells c elem (lo, hi) => .cells c elem (if lo == hi then (cur.size, cur.size + 1) else (min lo cur.size, max hi (cur.size + 1)))
      | o => o) = w.heap.push (.cells cur e (cur.size, cur.size + 1)) := by
    apply Array.ext_getElem?
    intro i
    rw [Array.getElem?_modify, Array.getElem?_push, Array.getElem?_push]
    split
    · subst_vars; simp
    · rename_i h
      rw [if_neg (fun e => h e.symm), if_neg (fun e => h e.symm)]
  unfold World.freeze pushW
  simp only [Nat.one_ne_zero, if_false]
  exact congrArg (fun h => ({ w with heap := h } : World)) this
theorem run_toBytes {src dst e : Nat} (hs : P.underlying src = some .string) (hd : P.underlying dst = some (.slice e)) (he : P.underlying e = some (.int .u8)) (s : ByteArray) (w w1 : World) (hw1 : w1 = { w with drawn := w.drawn + 1 }) {cur : Array Value} (hcur : (s.data.map fun b => Value.int .u8 (b.toNat : Int)) ++ Array.replicate (grownCap w s.size 0 e - s.size) (Value.int .u8 0) = cur) {cap : Nat} (hcap : cap = grownCap w s.size 0 e) :
    (Go.convert src dst (.string s)).run P w = .ok (.slice (some ⟨w1.heap.size, 0, none⟩) s.size cap) (pushW w1 (.cells cur e (cur.size, cur.size + 1))) := by
  have h1 : (Go.convert src dst (.string s)).run P w = (Conv.stringToBytes e s).run P w := by
    simp [Go.convert, run_underlying hs, run_underlying hd, run_underlying he]
  rw [h1, ← freeze_push]
  have hsh : (pushW w1 (.cells cur e (0, 0))).shape? w1.heap.size = some (e, cur.size) := by
    unfold World.shape?; rw [push_at]
  subst hw1 hcap
  have hcap : ∀ q : Nat, (Question.appendCap s.size 0 e).cut q = s.size + q % (2 ^ 63 - s.size) := fun q => rfl
  simp only [Conv.stringToBytes, Sem.run_bind, run_choose, Question.forced, Bool.false_eq_true, if_false, Result.andThen_ok, newRow, run_newObj, Sem.run_pure, markStringish]
  have e1 : (Question.appendCap s.size 0 e).cut (w.tape w.drawn (Question.appendCap s.size 0 e)) = grownCap w s.size 0 e := rfl
  rw [e1, hcur]
  change Result.andThen (Result.andThen ((shape w.heap.size).run P (pushW { w with drawn := w.drawn + 1 } (.cells cur e (0, 0)))) _) _ = _
  rw [run_shape, Result.andThen_ok]
  have h2 : (pushW { w with drawn := w.drawn + 1 } (.cells cur e (0, 0))).shape? w.heap.size = some (e, cur.size) := hsh
  rw [h2]
  rfl
theorem conv_ok (hτ : TTok P τ) (H : HM c hd fp m w X) {src dst D : Nat} {x : AV} {xv : Value} (hx : AVok c hd m w.heap x xv) (hE : Ex P (AM.conv τ src dst x D) u m v m' A W) :
    ∃ vv w' hd' fp', (Go.convert src dst xv).run P w = .ok vv w' ∧ AVok c hd' m' w'.heap v vv ∧ HM c hd' fp' m' w' X ∧ Evo hd m w.heap hd' m' w'.heap := by
  unfold AM.conv at hE
  split at hE
  · rename_i sI dI hs hdst
    obtain ⟨ds, hus, hds⟩ := (hτ src _ hs).undR
    obtain ⟨dd, hud, hdd⟩ := (hτ dst _ hdst).undR
    split at hE
    · rename_i k k' n hk
      simp only [Ex] at hE
      obtain ⟨rfl, rfl, _, _⟩ := hE
      rw [hk] at hdd
      have : dd = .int k := by cases dd <;> simp [kdOf] at hdd; rw [hdd]
      subst this
      simp only [AVok] at hx; subst hx
      exact ⟨_, w, hd, fp, by cases ds <;> simp [Go.convert, run_underlying hus, run_underlying hud, Conv.intToInt] <;> rfl, by simp only [AVok], H, Evo.refl _ _ _⟩
    · rename_i s hk
      simp only [Ex] at hE
      obtain ⟨rfl, rfl, _, _⟩ := hE
      rw [hk] at hdd
      have : dd = .string := by cases dd <;> simp [kdOf] at hdd; rfl
      subst this
      simp only [AVok] at hx; subst hx
      exact ⟨_, w, hd, fp, by cases ds <;> simp [Go.convert, run_underlying hus, run_underlying hud] <;> rfl, by simp only [AVok], H, Evo.refl _ _ _⟩
    · rename_i x' hk hne
      split at hE
      · rename_i e hks
        split at hE
        · rename_i he
          obtain ⟨n, cs, A1, hE, B, C, vs, rfl, k1, k2, k3, k4, k5, k6⟩ := rdRow_ok H hx hE
          simp only [Ex] at hE
          obtain ⟨⟨l, rfl⟩, rfl, rfl, _, _⟩ := hE
          rw [hk] at hdd
          have : dd = .string := by cases dd <;> simp [kdOf] at hdd; rfl
          subst this
          rw [hks] at hds
          have : ds = .slice e := by cases ds <;> simp [kdOf] at hds; rw [hds]
          subst this
          obtain ⟨de, hue, hde⟩ := (hτ e _ he).undR
          have : de = .int .u8 := by cases de <;> simp [kdOf] at hde; rw [hde]
          subst this
          have hvs : vs = l.map (Value.int .u8) := by
            rcases k6 with ⟨_, k6⟩ | ⟨nm, G, _, k6, _⟩
            · exact bytes_vals (h := w.heap) (tg := c.tags) (Ow_scal (scal_ints _ l) k6)
            · exact bytes_vals k6
          have hn : n = l.length := by have := k3.1; simp at this; omega
          refine ⟨.string ⟨((l.map (Tr.int .u8)).map byteTr).toArray⟩, w, hd, fp, ?_, by simp only [AVok], H, Evo.refl _ _ _⟩
          have e1 : (Go.convert src dst (.slice B n C)).run P w = (Conv.bytesToString (.slice B n C)).run P w := by
            simp [Go.convert, run_underlying hus, run_underlying hud, run_underlying hue]
          rw [e1]
          by_cases hne : l = []
          · subst hne
            simp at hn
            subst hn
            cases B with
            | none => rfl
            | some a => rfl
          · obtain ⟨a, rfl, hc, _⟩ := k5 (by simpa using hne)
            have hld : (loadCells a n).run P w = .ok (l.map (Value.int .u8)).toArray w := by
              rw [← hvs, hn]
              have : l.length = vs.length := by rw [hvs]; simp
              rw [this]
              exact run_loadCells_list w a vs hc
            rw [run_bytesToString w a n C l hld, foldl_push]
            rfl
        · simp only [Ex] at hE
      · simp only [Ex] at hE
    · rename_i e s hk
      split at hE
      · rename_i hks he
        simp only [Ex] at hE
        obtain ⟨hsz, hE⟩ := hE
        obtain ⟨g, B, V, hE, hg⟩ := mk_ok hE
        simp only [Ex] at hE
        obtain ⟨rfl, rfl, _, _⟩ := hE
        simp only [AVok] at hx; subst hx
        rw [hk] at hdd
        have : dd = .slice e := by cases dd <;> simp [kdOf] at hdd; rw [hdd]
        subst this
        obtain ⟨de, hue, hde⟩ := (hτ e _ he).undR
        have : de = .int .u8 := by cases de <;> simp [kdOf] at hde; rw [hde]
        subst this
        have hcap : s.size ≤ grownCap w s.size 0 e ∧ grownCap w s.size 0 e ≤ maxL := by
          have hun : grownCap w s.size 0 e = s.size + w.tape w.drawn (.appendCap s.size 0 e) % (2 ^ 63 - s.size) := rfl
          rw [hun]
          unfold maxL at hsz ⊢
          have : 0 < 2 ^ 63 - s.size := by omega
          have h2 := Nat.mod_lt (w.tape w.drawn (.appendCap s.size 0 e)) this
          omega
        obtain ⟨w1, hw1⟩ : ∃ w1 : World, w1 = { w with drawn := w.drawn + 1 } := ⟨_, rfl⟩
        obtain ⟨H1, E1⟩ := HM.world (w' := w1) H (by rw [hw1]) (by rw [hw1]) (by rw [hw1]) (by rw [hw1]; exact Nat.le_refl _) (fun k _ => by rw [hw1])
        have hcells : (((s.data.map fun b => Value.int .u8 (b.toNat : Int)) ++ Array.replicate (grownCap w s.size 0 e - s.size) (Value.int .u8 0)).toList.take s.size) = s.data.toList.map fun b => Value.int .u8 (b.toNat : Int) := by
          rw [Array.toList_append, Array.toList_map]
          exact List.take_left' (by simp)
        have hsc : OwL w1.heap c.tags (s.data.toList.map fun b => Tr.int .u8 (b.toNat : Int)) (s.data.toList.map fun b => Value.int .u8 (b.toNat : Int)) [] := by
          generalize s.data.toList = l
          induction l with
          | nil => simp [OwL]
          | cons b l ih => simp only [List.map_cons, OwL]; exact ⟨_, _, [], [], rfl, by simp [Ow], ih, rfl⟩
        have hasz : ((s.data.map fun b => Value.int .u8 (b.toNat : Int)) ++ Array.replicate (grownCap w s.size 0 e - s.size) (Value.int .u8 0)).size = grownCap w s.size 0 e := by
          rw [Array.size_append, Array.size_map, Array.size_replicate]
          have : s.data.size = s.size := rfl
          omega
        obtain ⟨H2, E2⟩ := HM.newRow (F := []) (by simpa using H1) D (g := g) (v := 0) (sz := 1) (n := s.size) (cap := grownCap w s.size 0 e) (e := e) (fr := (((s.data.map fun b => Value.int .u8 (b.toNat : Int)) ++ Array.replicate (grownCap w s.size 0 e - s.size) (Value.int .u8 0)).size, ((s.data.map fun b => Value.int .u8 (b.toNat : Int)) ++ Array.replicate (grownCap w s.size 0 e - s.size) (Value.int .u8 0)).size + 1)) (cs := s.data.toList.map fun b => Tr.int .u8 (b.toNat : Int))
          (cur := (s.data.map fun b => Value.int .u8 (b.toNat : Int)) ++ Array.replicate (grownCap w s.size 0 e - s.size) (Value.int .u8 0)) hg (.inr ⟨rfl, Nat.le_refl _⟩) (by rw [hasz, Nat.mul_one]) hcap.1 hcap.2
          (fun t ht => by obtain ⟨b, _, rfl⟩ := List.mem_map.1 ht; rfl) (by simp) (by rw [Nat.mul_one, hcells]; exact hsc)
        rw [hks] at hds
        have : ds = .string := by cases ds <;> simp [kdOf] at hds; rfl
        subst this
        exact ⟨_, _, _, _, run_toBytes hus hud hue s w w1 hw1 rfl rfl, own_new rfl, H2, E1.trans E2⟩
      · simp only [Ex] at hE
    · simp only [Ex] at hE
  · simp only [Ex] at hE
end
end Go.AM
/- AN ABSTRACT MACHINE, 13: structs and slices made, append. No condition of its own. -/
namespace Go.AM
open Go AM

section
variable {P : Program} {c : Ctx} {hd : Nat → Value} {fp : Nat → List Nat} {m m' : Mem} {w : World} {X : List Nat} {u : Nat → Bool} {A W : List Nat} {v : AV} {τ : TTab}

/-! ### structs -/
theorem fill_foldl : ∀ (vs : List Value) (off j : Nat) (cs : Array Value), ((vs.zipIdx j).foldl (fun (cs : Array Value) (x : Value × Nat) => cs.setIfInBounds (off + x.2) x.1) cs).toList = setAt cs.toList (off + j) vs
  | [], off, j, cs => by simp [Go.AM.setAt]
  | x :: vs, off, j, cs => by
    rw [List.zipIdx_cons, List.foldl_cons, fill_foldl vs off (j + 1), Array.toList_setIfInBounds]
    rfl
theorem fill_step (cs v : Array Value) (off : Nat) : (v.zipIdx.foldl (fun (cs : Array Value) (x : Value × Nat) => cs.setIfInBounds (off + x.2) x.1) cs).toList = setAt cs.toList off v.toList := by
  rw [← Array.foldl_toList, Array.toList_zipIdx]
  exact fill_foldl v.toList off 0 cs
theorem fill_step' (cs v : Array Value) (off : Nat) : (v.zipIdx.foldl (fun (cs : Array Value) (x : Value × Nat) => match x with | (c, j) => cs.setIfInBounds (off + j) c) cs).toList = setAt cs.toList off v.toList := fill_step cs v off
theorem run_places {fs : List Field} (hτ : TTok P τ) (h : ∀ f, f ∈ fs → (τ f.type).isSome = true) (w : World) : (fs.mapM fun f => (do pure (f.offset, ← sizeOf f.type) : Sem (Nat × Nat))).run P w = .ok (fs.map fun f => (f.offset, ((τ f.type).map (·.size)).getD 0)) w := by
  induction fs with
  | nil => simp
  | cons f fs ih =>
    obtain ⟨i, hi⟩ := Option.isSome_iff_exists.1 (h f (by simp))
    have h1 := (hτ _ i hi).size w
    rw [List.mapM_cons]
    simp only [Sem.run_bind, h1, Result.andThen_ok, Sem.run_pure, ih (fun g hg => h g (List.mem_cons_of_mem _ hg)), List.map_cons, hi, Option.map_some, Option.getD_some]
theorem fill_ok {fs : List (Nat × Nat)} {n : Nat} {pl : Nat → Option (Nat × Nat)} (hpl : ∀ i o ft ti, fs[i]? = some (o, ft) → τ ft = some ti → pl i = some (o, ti.size)) : ∀ (ps : List (Nat × AV)) (qs : List (Nat × Value)) (xs : List AV) (cs : Array Value),
    partsOk τ n fs ps = true → qs.length = ps.length → (∀ (j i : Nat) (x : AV), ps[j]? = some (i, x) → ∃ y, qs[j]? = some (i, y) ∧ AVok c hd m w.heap x y) → AVokL c hd m w.heap xs cs.toList → (∀ z, z ∈ cs.toList → z.oneCell' = true) → cs.size = n →
    ∃ cs', Instr.fill pl cs qs = some cs' ∧ AVokL c hd m w.heap (fillA xs (ps.map fun p => (place fs p.1, p.2))) cs'.toList ∧ ∀ z, z ∈ cs'.toList → z.oneCell' = true
  | [], qs, xs, cs, _, hl, _, hx, h1, _ => by
    have : qs = [] := List.length_eq_zero_iff.1 hl
    subst this
    exact ⟨cs, rfl, hx, h1⟩
  | (i, x) :: ps, qs, xs, cs, hp, hl, hq, hx, h1, hn => by
    match qs, hl with
    | q :: qs, hl =>
      obtain ⟨y, hy1, hy2⟩ := hq 0 i x rfl
      have hy : q = (i, y) := by simpa using hy1
      subst hy
      simp only [partsOk, Bool.and_eq_true] at hp
      obtain ⟨hp1, hp2⟩ := hp
      split at hp1
      · rename_i o ft hf
        split at hp1
        · rename_i ti hti
          simp only [Bool.and_eq_true, beq_iff_eq, decide_eq_true_eq] at hp1
          obtain ⟨⟨k1, k2⟩, k3⟩ := hp1
          obtain ⟨c1, c2⟩ := AVok.cells hy2 k1
          have hcl := AVokL.length c1
          rw [Array.length_toList] at hcl
          have hst := fill_step' cs y.cells o
          obtain ⟨cs1, hcs1⟩ : ∃ cs1, cs1 = y.cells.zipIdx.foldl (fun (cs : Array Value) (x : Value × Nat) => match x with | (c, j) => cs.setIfInBounds (o + j) c) cs := ⟨_, rfl⟩
          rw [← hcs1] at hst
          have hsz : cs1.size = n := by rw [← Array.length_toList, hst, setAt_length, Array.length_toList, hn]
          obtain ⟨cs', r1, r2, r3⟩ := fill_ok hpl ps qs (setAt xs o x.cells) cs1 hp2 (by simpa using hl) (fun j i x hj => by simpa using hq (j + 1) i x (by simpa using hj)) (by rw [hst]; exact AVokL.setAt o hx c1)
            (fun z hz => by
              rw [hst] at hz
              rcases mem_setAt _ _ _ z hz with h | h
              · exact h1 z h
              · exact c2 z h) hsz
          refine ⟨cs', ?_, ?_, r3⟩
          · unfold Instr.fill
            rw [hpl i o ft ti hf hti]
            have hno : ¬ ((y.cells.size ≠ ti.size || decide (o + y.cells.size > cs.size)) = true) := by
              have a1 : y.cells.size = ti.size := by omega
              simp [a1]; omega
            simp only [hno, if_false]
            rw [← hcs1]
            exact r1
          · have hplc : place fs i = o := by unfold place; rw [List.getD_eq_getElem?_getD, hf]; rfl
            simp only [List.map_cons, fillA, hplc]
            exact r2
        · simp at hp1
      · simp at hp1
    | [], hl => simp at hl
theorem build_ok (hτ : TTok P τ) {t : Nat} {ps : List (Nat × AV)} {qs : List (Nat × Value)} (hl : qs.length = ps.length) (hq : ∀ (j i : Nat) (x : AV), ps[j]? = some (i, x) → ∃ y, qs[j]? = some (i, y) ∧ AVok c hd m w.heap x y) (hE : Ex P (buildA τ t ps) u m v m' A W) :
    m' = m ∧ ∃ vv, (Instr.build t qs.toArray).run P w = .ok vv w ∧ AVok c hd m w.heap v vv := by
  unfold buildA at hE
  split at hE
  · rename_i fs size byt sh ht
    have hti := hτ t _ ht
    split at hE
    · rename_i hc
      simp only [Bool.and_eq_true] at hc
      obtain ⟨hc1, hc2⟩ := hc
      simp only [Ex] at hE
      obtain ⟨rfl, rfl, _, _⟩ := hE
      obtain ⟨fields, hu, hfs⟩ := hti.struct rfl
      have hty : ∀ f, f ∈ fields.toList → (τ f.type).isSome = true := fun f hf => by
        unfold typesOk at hc1
        rw [List.all_eq_true] at hc1
        exact hc1 (f.offset, f.type) (by rw [← hfs]; exact List.mem_map_of_mem hf)
      obtain ⟨z1, z2⟩ := zeroAV (c := c) (hd := hd) (m := m') (w := w) sh
      have hzc := zeroV_cells hti
      obtain ⟨cs', r1, r2, r3⟩ := fill_ok (c := c) (hd := hd) (m := m') (w := w) (τ := τ) (fs := fs) (n := size) (pl := fun i => ((fields.toList.map fun f => (f.offset, ((τ f.type).map (·.size)).getD 0)).toArray)[i]?) (fun i o ft ti hf hti => by
        rw [← hfs, List.getElem?_map] at hf
        obtain ⟨f, hf1, hf2⟩ := Option.map_eq_some_iff.1 hf
        simp only [Prod.mk.injEq] at hf2
        obtain ⟨rfl, rfl⟩ := hf2
        simp only [List.getElem?_toArray, List.getElem?_map, hf1, Option.map_some, hti, Option.getD_some]) ps qs (sh.map CK.av) (TI.zeroV ⟨.struct fs, size, _, sh⟩).cells hc2 hl hq (by rw [hzc]; exact z1) (by rw [hzc]; exact z2) (by
          rw [← Array.length_toList, hzc, List.length_map]; exact hti.len)
      refine ⟨rfl, .agg cs', ?_, ?_⟩
      · simp only [Instr.build, Sem.run_bind, hti.zeroR, Result.andThen_ok, run_underlying hu, Array.mapM_eq_mapM_toList, Sem.run_map, run_places hτ hty]
        rw [r1]; rfl
      · simp only [AVok]
        exact ⟨cs', rfl, r2, r3⟩
    · simp only [Ex] at hE
  · simp only [Ex] at hE

/-! ### zeros -/
theorem zeroT {h : Heap} {tg : List Value} : ∀ (sh : List CK), OwL h tg (sh.map CK.tr) (sh.map CK.zero) [] ∧ cells1 (sh.map CK.tr)
  | [] => by simp [OwL, cells1]
  | k :: ks => by
    obtain ⟨h1, h2⟩ := zeroT (h := h) (tg := tg) ks
    refine ⟨?_, fun t ht => ?_⟩
    · simp only [List.map_cons, OwL]
      refine ⟨_, _, [], [], rfl, ?_, h1, rfl⟩
      cases k with
      | sc z => cases z <;> simp [CK.tr, CK.zero, Ow]
      | sl sz => simp [CK.tr, CK.zero, Ow, cells1]
      | pt t => simp [CK.tr, CK.zero, Ow, Value.oneCell']
    · rw [List.map_cons] at ht
      rcases List.mem_cons.1 ht with rfl | ht
      · cases k with
        | sc z => cases z <;> rfl
        | sl sz => rfl
        | pt t => rfl
      · exact h2 t ht
def zeroVals (sh : List CK) : Nat → List Value
  | 0 => []
  | n + 1 => sh.map CK.zero ++ zeroVals sh n
theorem zerosT {h : Heap} {tg : List Value} (sh : List CK) : ∀ n, OwL h tg (zeros sh n) (zeroVals sh n) [] ∧ cells1 (zeros sh n) ∧ (zeros sh n).length = n * sh.length
  | 0 => by simp [zeros, zeroVals, OwL, cells1]
  | n + 1 => by
    obtain ⟨h1, h2, h3⟩ := zerosT (h := h) (tg := tg) sh n
    obtain ⟨z1, z2⟩ := zeroT (h := h) (tg := tg) sh
    refine ⟨by simpa [zeros, zeroVals] using OwL.append z1 h1, fun t ht => ?_, ?_⟩
    · simp only [zeros] at ht
      rcases List.mem_append.1 ht with h | h
      · exact z2 t h
      · exact h2 t h
    · simp only [zeros, List.length_append, List.length_map, h3, Nat.succ_mul]; omega
theorem zeroVals_get (sh : List CK) : ∀ (n i : Nat), i < n * sh.length → (zeroVals sh n)[i]? = (sh.map CK.zero)[i % sh.length]?
  | 0, i, h => by omega
  | n + 1, i, h => by
    have hp : 0 < sh.length := by
      rcases Nat.eq_zero_or_pos sh.length with h0 | h0
      · rw [h0] at h; omega
      · exact h0
    simp only [zeroVals]
    by_cases hi : i < sh.length
    · rw [List.getElem?_append_left (by simpa using hi), Nat.mod_eq_of_lt hi]
    · have e1 : i % sh.length = (i - sh.length) % sh.length := Nat.mod_eq_sub_mod (by omega)
      have e2 : i - sh.length < n * sh.length := by
        have h' := h
        rw [Nat.add_mul, Nat.one_mul] at h'
        omega
      rw [List.getElem?_append_right (by simp; omega), List.length_map, zeroVals_get sh n _ e2, e1]
theorem made_take (sh : List CK) (z : Array Value) (hz : z.toList = sh.map CK.zero) (k n : Nat) (hk : n ≤ k) : (madeCells z (k * sh.length)).toList.take (n * sh.length) = zeroVals sh n := by
  have hzs : z.size = sh.length := by rw [← Array.length_toList, hz, List.length_map]
  have hl : (zeroVals sh n).length = n * sh.length := by
    have := (zerosT (h := #[]) (tg := []) sh n)
    rw [OwL.length this.1, this.2.2]
  apply List.ext_getElem?
  intro i
  rw [List.getElem?_take]
  split
  · rename_i hi
    have hp : 0 < sh.length := by
      rcases Nat.eq_zero_or_pos sh.length with h0 | h0
      · rw [h0] at hi; omega
      · exact h0
    have hm : n * sh.length ≤ k * sh.length := Nat.mul_le_mul_right _ hk
    rw [zeroVals_get sh n i hi]
    unfold madeCells
    rw [Array.getElem?_toList, Array.getElem?_map, Array.getElem?_range, if_pos (by omega), Option.map_some, ← hz, Array.getElem?_toList, hzs]
    have : i % sh.length < z.size := by rw [hzs]; exact Nat.mod_lt _ hp
    rw [Array.getElem?_eq_getElem this, getElem!_pos z _ this]
  · rename_i hi
    rw [List.getElem?_eq_none (by omega)]
theorem make_ok (hτ : TTok P τ) (H : HM c hd fp m w X) {t D : Nat} {l cc : AV} {lv cv : Value} (hl : AVok c hd m w.heap l lv) (hc : AVok c hd m w.heap cc cv) (hE : Ex P (makeSliceA τ t l cc D) u m v m' A W) :
    ∃ vv w' hd' fp', (Instr.makeSlice t lv cv).run P w = .ok vv w' ∧ AVok c hd' m' w'.heap v vv ∧ HM c hd' fp' m' w' X ∧ Evo hd m w.heap hd' m' w'.heap := by
  unfold makeSliceA at hE
  split at hE
  · rename_i ei kl l kc cc hei
    obtain ⟨e, hu, he⟩ := elemOf_ok hτ hei
    simp only [AVok] at hl hc
    subst hl; subst hc
    simp only [Ex] at hE
    obtain ⟨⟨b0, b1, b2, b3⟩, hE⟩ := hE
    obtain ⟨g, B, V, hE, hg⟩ := mk_ok hE
    simp only [Ex] at hE
    obtain ⟨rfl, rfl, _, _⟩ := hE
    obtain ⟨I, hI, i1, i2, i3⟩ := he.tinfo
    have hrun := run_make (P := P) w t e I ei.zeroV hu hI i3 kl kc l cc b0 b1 (by rw [i2]; exact b3) b2
    rw [i1] at hrun
    have hzc := zeroV_cells he
    have hz := zerosT (h := w.heap) (tg := c.tags) ei.sh l.toNat
    have hmt := made_take ei.sh ei.zeroV.cells hzc cc.toNat l.toNat (by omega)
    rw [he.len] at hmt
    obtain ⟨H2, E2⟩ := HM.newRow (F := []) (by simpa using H) D (g := g) (v := 0) (sz := ei.size) (n := l.toNat) (cap := cc.toNat) (e := e) (fr := (0, 0)) (cs := zeros ei.sh l.toNat) (cur := madeCells ei.zeroV.cells (cc.toNat * ei.size)) hg (.inl (Nat.le_refl _)) (size_madeCells _ _) (by omega) (by unfold maxL; omega)
      hz.2.1 (by rw [hz.2.2, he.len]) (by rw [hmt]; exact hz.1)
    exact ⟨_, _, _, _, hrun, own_new rfl, H2, E2⟩
  · simp only [Ex] at hE

/-! ### a slice of elements that are written out -/
theorem elsT_ok {α : Type} {y : α} {sh : List CK} : ∀ (ps : List (Nat × AV)) (qs : List (Nat × Value)) (i : Nat) {fp : Nat → List Nat} {m : Mem} {X A W : List Nat} {k : List Tr → AM α}, HM c hd fp m w X → qs.length = ps.length → (∀ (j i : Nat) (x : AV), ps[j]? = some (i, x) → ∃ y, qs[j]? = some (i, y) ∧ AVok c hd m w.heap x y) → Ex P (elsT sh i ps k) u m y m' A W →
    ∃ ts m1 fp1 F A1 W1, Ex P (k ts) u m1 y m' A1 W1 ∧ HM c hd fp1 m1 w (F ++ X) ∧ OwL w.heap c.tags ts (qs.flatMap fun q => q.2.cells.toList) F ∧ cells1 ts ∧ Evo hd m w.heap hd m1 w.heap ∧
      (∀ (j : Nat) q, qs[j]? = some q → q.1 = i + j ∧ q.2.cells.size = sh.length) ∧ ∀ z, z ∈ (qs.flatMap fun q => q.2.cells.toList) → z.oneCell' = true
  | [], qs, i, fp, m, X, A, W, k, H, hl, hq, hE => by
    have : qs = [] := List.length_eq_zero_iff.1 hl
    subst this
    simp only [elsT] at hE
    exact ⟨[], m, fp, [], A, W, hE, H, by simp [OwL], by simp [cells1], Evo.refl _ _ _, fun j q hj => by simp at hj, by simp⟩
  | (j, x) :: ps, qs, i, fp, m, X, A, W, k, H, hl, hq, hE => by
    match qs, hl with
    | q :: qs, hl =>
      obtain ⟨y, hy1, hy2⟩ := hq 0 j x rfl
      have hy : q = (j, y) := by simpa using hy1
      subst hy
      simp only [elsT] at hE
      split at hE
      · rename_i hc
        obtain ⟨rfl, hk⟩ := hc
        obtain ⟨c1, c2⟩ := AVok.cells hy2 hk
        obtain ⟨ts, m1, fp1, F, A1, W1, e1, e2, e3, e4, e5, e6⟩ := toTL_ok _ _ H c1 hE
        obtain ⟨us, m2, fp2, F2, A2, W2, r1, r2, r3, r4, r5, r6, r7⟩ := elsT_ok ps qs (j + 1) e2 (by simpa using hl) (fun k i x hk => by
          obtain ⟨y, k1, k2⟩ := hq (k + 1) i x (by simpa using hk)
          exact ⟨y, by simpa using k1, AVok.evo e5 x k2⟩) e1
        refine ⟨ts ++ us, m2, fp2, F ++ F2, A2, W2, r1, r2.pocket ?_, ?_, ?_, e5.trans r5, ?_, ?_⟩
        · rw [← List.append_assoc]; exact List.perm_append_comm.append_right X
        · rw [List.flatMap_cons]; exact OwL.append e3 r3
        · intro t ht
          rcases List.mem_append.1 ht with h | h
          · exact e4 t h
          · exact r4 t h
        · intro k q hk
          cases k with
          | zero =>
            simp at hk; subst hk
            refine ⟨rfl, ?_⟩
            show y.cells.size = sh.length
            have := OwL.length e3
            rw [Array.length_toList] at this
            omega
          | succ k =>
            obtain ⟨a1, a2⟩ := r6 k q (by simpa using hk)
            exact ⟨by omega, a2⟩
        · intro z hz
          rw [List.flatMap_cons] at hz
          rcases List.mem_append.1 hz with h | h
          · exact c2 z h
          · exact r7 z h
      · simp only [Ex] at hE
    | [], hl => simp at hl
theorem fill_seq {sz : Nat} : ∀ (qs : List (Nat × Value)) (i : Nat) (pre rest : List Value) (cs : Array Value), cs.toList = pre ++ rest → pre.length = i * sz → rest.length = qs.length * sz → (∀ (j : Nat) q, qs[j]? = some q → q.1 = i + j ∧ q.2.cells.size = sz) →
    ∃ cs', Instr.fill (fun i => some (i * sz, sz)) cs qs = some cs' ∧ cs'.toList = pre ++ qs.flatMap fun q => q.2.cells.toList
  | [], i, pre, rest, cs, h1, h2, h3, h4 => by
    have : rest = [] := List.length_eq_zero_iff.1 (by simpa using h3)
    subst this
    exact ⟨cs, rfl, by simpa using h1⟩
  | (j, y) :: qs, i, pre, rest, cs, h1, h2, h3, h4 => by
    obtain ⟨k1, k2⟩ := h4 0 (j, y) rfl
    simp only [Nat.add_zero] at k1 k2
    subst k1
    have hst := fill_step' cs y.cells (j * sz)
    obtain ⟨cs1, hcs1⟩ : ∃ cs1, cs1 = y.cells.zipIdx.foldl (fun (cs : Array Value) (x : Value × Nat) => match x with | (c, k) => cs.setIfInBounds (j * sz + k) c) cs := ⟨_, rfl⟩
    rw [← hcs1, h1, setAt_eq _ _ _ (by rw [List.length_append, Array.length_toList, h2, h3, k2, List.length_cons, Nat.succ_mul]; omega)] at hst
    have t1 : (pre ++ rest).take (j * sz) = pre := List.take_left' h2
    have t2 : (pre ++ rest).drop (j * sz + y.cells.toList.length) = rest.drop sz := by
      rw [Array.length_toList, k2, ← List.drop_drop, List.drop_left' h2]
    rw [t1, t2] at hst
    simp only [List.length_cons, Nat.succ_mul] at h3
    obtain ⟨cs', r1, r2⟩ := fill_seq qs (j + 1) (pre ++ y.cells.toList) (rest.drop sz) cs1 hst (by have hy := Array.length_toList (xs := y.cells); rw [List.length_append, hy, h2, k2, Nat.succ_mul]) (by rw [List.length_drop, h3]; omega) (fun k q hk => by
      obtain ⟨a1, a2⟩ := h4 (k + 1) q (by simpa using hk)
      exact ⟨by omega, a2⟩)
    refine ⟨cs', ?_, by rw [r2, List.flatMap_cons, List.append_assoc]⟩
    unfold Instr.fill
    have hcs : cs.size = j * sz + (qs.length * sz + sz) := by rw [← Array.length_toList, h1, List.length_append, h2, h3]
    have hno : ¬ ((y.cells.size ≠ sz || decide (j * sz + y.cells.size > cs.size)) = true) := by
      simp [k2, hcs]
    simp only [hno, if_false]
    rw [← hcs1]
    exact r1
theorem buildSlice_ok (hτ : TTok P τ) (H : HM c hd fp m w X) {t n D : Nat} {ps : List (Nat × AV)} {qs : List (Nat × Value)} (hl : qs.length = ps.length) (hq : ∀ (j i : Nat) (x : AV), ps[j]? = some (i, x) → ∃ y, qs[j]? = some (i, y) ∧ AVok c hd m w.heap x y) (hE : Ex P (buildSliceA τ t n ps D) u m v m' A W) :
    ∃ vv w' hd' fp', (Instr.buildSlice t n qs.toArray).run P w = .ok vv w' ∧ AVok c hd' m' w'.heap v vv ∧ HM c hd' fp' m' w' X ∧ Evo hd m w.heap hd' m' w'.heap := by
  unfold buildSliceA at hE
  split at hE
  · rename_i ei hei
    obtain ⟨e, hu, he⟩ := elemOf_ok hτ hei
    split at hE
    · rename_i hc
      obtain ⟨hn, hsz, hsn⟩ := hc
      obtain ⟨ts, m1, fp1, F, A1, W1, r1, r2, r3, r4, r5, r6, r7⟩ := elsT_ok ps qs 0 H hl hq hE
      simp only [Ex] at r1
      obtain ⟨g, B, V, hE, hg⟩ := mk_ok r1
      simp only [Ex] at hE
      obtain ⟨rfl, rfl, _, _⟩ := hE
      have hlen := he.len
      rw [hlen] at r6
      -- the array that is filled
      have hqn : qs.length = n := by omega
      obtain ⟨z0, hz0⟩ : ∃ z0 : Array Value, z0 = if n * ei.size = 0 then #[] else ei.zeroV.cells := ⟨_, rfl⟩
      obtain ⟨c0, hc0⟩ : ∃ c0 : Array Value, c0 = (Array.range (n * ei.size)).map (z0[· % z0.size]!) := ⟨_, rfl⟩
      have hc0s : c0.size = n * ei.size := by rw [hc0]; simp
      obtain ⟨cs', q1, q2⟩ := fill_seq (sz := ei.size) qs 0 [] c0.toList c0 rfl (by simp) (by rw [Array.length_toList, hc0s, hqn]) r6
      rw [List.nil_append] at q2
      have hcz : cs'.size = n * ei.size := by
        have := OwL.length r3
        rw [← Array.length_toList, q2]
        clear q1 r3 r4 r7 this
        rw [← hqn]
        clear hqn hsz hc0s hc0 c0 hz0 z0 hn hl hq
        have gen : ∀ (qs : List (Nat × Value)) (i : Nat), (∀ (j : Nat) q, qs[j]? = some q → q.1 = i + j ∧ q.2.cells.size = ei.size) → (qs.flatMap fun q => q.2.cells.toList).length = qs.length * ei.size := by
          intro qs
          induction qs with
          | nil => intro i _; simp
          | cons q qs ih =>
            intro i h
            rw [List.flatMap_cons, List.length_append, ih (i + 1) (fun j q' hj => by
              obtain ⟨a1, a2⟩ := h (j + 1) q' (by simpa using hj)
              exact ⟨by omega, a2⟩), Array.length_toList, (h 0 q rfl).2, List.length_cons, Nat.succ_mul, Nat.add_comm]
        exact gen qs 0 r6
      obtain ⟨H2, E2⟩ := HM.newRow r2 D (g := g) (v := 0) (sz := ei.size) (n := n) (cap := n) (e := e) (fr := (0, 0)) (cs := ts) (cur := cs') hg (.inl (Nat.le_refl _)) hcz (Nat.le_refl _) (by
          unfold maxL
          omega) r4 (by rw [← OwL.length r3, ← q2, Array.length_toList, hcz]) (by
          rw [List.take_of_length_le (by rw [Array.length_toList, hcz]; exact Nat.le_refl _), q2]; exact r3)
      refine ⟨_, _, _, _, ?_, own_new rfl, H2, r5.trans E2⟩
      have hbig : ¬ (n * ei.size > 2 ^ 24) := by
        have : (2 : Nat) ^ 24 = 16777216 := by decide
        omega
      by_cases h0 : n * ei.size = 0
      · have hz1 : z0 = #[] := by rw [hz0, if_pos h0]
        rw [hz1] at hc0
        simp only [Instr.buildSlice, Sem.run_bind, run_underlying hu, Result.andThen_ok, he.size, hbig, if_false, h0, if_true, Sem.run_pure, show ¬ (0 > 2 ^ 24) by decide]
        rw [h0] at hc0
        rw [← hc0, q1]
        rfl
      · have hz1 : z0 = ei.zeroV.cells := by rw [hz0, if_neg h0]
        rw [hz1] at hc0
        simp only [Instr.buildSlice, Sem.run_bind, run_underlying hu, Result.andThen_ok, he.size, hbig, if_false, h0, he.zeroR, Sem.run_pure]
        rw [← hc0, q1]
        rfl
    · simp only [Ex] at hE
  · simp only [Ex] at hE
end
end Go.AM
/- AN ABSTRACT MACHINE, 14: append. No condition of its own. -/
namespace Go.AM
open Go AM

section
variable {P : Program} {c : Ctx} {hd : Nat → Value} {fp : Nat → List Nat} {m m' : Mem} {w : World} {X : List Nat} {u : Nat → Bool} {A W : List Nat} {v : AV} {τ : TTab}

theorem grown_bounds (w : World) (need old e : Nat) (h : need ≤ 140737488355328) : need ≤ grownCap w need old e ∧ grownCap w need old e ≤ maxL := by
  have hun : grownCap w need old e = need + w.tape w.drawn (.appendCap need old e) % (2 ^ 63 - need) := rfl
  rw [hun]
  unfold maxL
  have : 0 < 2 ^ 63 - need := by omega
  have h2 := Nat.mod_lt (w.tape w.drawn (.appendCap need old e)) this
  omega
/-- what becomes of a row of one's own behind which something is appended -/
def Grown (tg : List Value) (w w' : World) (F0 F : List Nat) (sz n : Nat) (cs : List Tr) (vv : Value) : Prop :=
  ∃ F1, Ow w'.heap tg (.row sz n cs) vv F1 ∧ F1.Nodup ∧ (∀ k, k ∈ F1 → k ∈ F0 ∨ k ∈ F ∨ w.heap.size ≤ k) ∧ vv.oneCell' = true ∧ w'.os = w.os ∧ w'.tape = w.tape ∧ w'.output = w.output ∧ w.heap.size ≤ w'.heap.size ∧ ∀ k, k < w.heap.size → k ∉ F0 → w'.heap[k]? = w.heap[k]?
theorem append_core {t t2 ty e : Nat} {ei : TI} {tg : List Value} (hu : P.underlying t = some (.slice e)) (he : TI.Ok P e ei) (hs0 : 0 < ei.size) {xv yv : Value} {n k : Nat} {cs us : List Tr} {news : List Value} {F0 F : List Nat}
    (hx : Ow w.heap tg (.row ei.size n cs) xv F0) (hs : Src P ei.size t2 yv k news w) (hn : OwL w.heap tg us news F) (h1 : cells1 us) (hnd : (F0 ++ F).Nodup) (hb : (n + k) * ei.bytes ≤ 140737488355328) (hb2 : n + k ≤ 140737488355328) :
    ∃ vv w', (Builtin.append_ #[t, t2] ty #[xv, yv]).run P w = .ok vv w' ∧ Grown tg w w' F0 F ei.size (n + k) (cs ++ us) vv := by
  obtain ⟨I, hI, i1, i2, i3⟩ := he.tinfo
  have hs' : Src P I.size t2 yv k news w := by rw [i1]; exact hs
  have hnl := hs.newsLen
  have hul : us.length = k * ei.size := by rw [← OwL.length hn]; exact hnl
  have hxr := hx
  simp only [Ow] at hx
  obtain ⟨⟨hcl, hc1⟩, hx⟩ := hx
  have hlen : (cs ++ us).length = (n + k) * ei.size := by rw [List.length_append, hcl, hul, Nat.add_mul]
  have hc2 : cells1 (cs ++ us) := fun t ht => by
    rcases List.mem_append.1 ht with h | h
    · exact hc1 t h
    · exact h1 t h
  have hF : F.Nodup := (List.nodup_append.1 hnd).2.1
  have hFl := OwL.lt hn
  have hzs : ei.zeroV.cells.size = ei.size := by rw [← Array.length_toList, zeroV_cells he, List.length_map]; exact he.len
  rcases Nat.eq_zero_or_pos k with hk | hk
  · -- nothing
    subst hk
    have hnews : news = [] := List.length_eq_zero_iff.1 (by rw [hnl, Nat.zero_mul])
    have hus : us = [] := List.length_eq_zero_iff.1 (by rw [hul, Nat.zero_mul])
    subst hnews; subst hus
    obtain ⟨B, C, hv, k1, k2, _, _⟩ := slice_of_row hxr
    have hrun := run_append_nothing (P := P) w t t2 ty e I hu hI B n C k1 yv hs'
    rw [← hv] at hrun
    refine ⟨xv, w, hrun, F0, ?_, (List.nodup_append.1 hnd).1, fun k hk => .inl hk, by rw [hv]; rfl, rfl, rfl, rfl, Nat.le_refl _, fun _ _ _ => rfl⟩
    rw [List.append_nil, Nat.add_zero]; exact hxr
  · rcases hx with ⟨B, rfl, rfl, rfl⟩ | ⟨g, cap, cur, e', fr, G, rfl, h2, h3, h4, h5, h6, h7, rfl⟩
    · -- onto an empty one
      have hcs : cs = [] := List.length_eq_zero_iff.1 (by rw [hcl, Nat.zero_mul])
      subst hcs
      have hold : (Builtin.firstCells I.size 0 (.slice B 0 0)).run P w.drew = .ok ([] : List Value).toArray w.drew := by
        cases B with
        | none => rfl
        | some a => simp [Builtin.firstCells, loadCells, loadCellsFrom]
      have hrun := run_append_grow_src (P := P) w t t2 ty e I ei.zeroV hu hI i3 B 0 0 [] hold yv k news hs' (by omega) (by omega) (growslice_fits (by omega) (by rw [i2]; simpa using hb))
      obtain ⟨q1, q2⟩ := grown_bounds w (0 + k) 0 e (by omega)
      refine ⟨_, _, hrun, w.heap.size :: F, ?_, List.nodup_cons.2 ⟨fun hk => Nat.lt_irrefl _ (hFl _ hk), hF⟩, fun j hj => ?_, rfl, rfl, rfl, rfl, ?_, fun j hj _ => ?_⟩
      · simp only [Ow]
        obtain ⟨z, hz⟩ : ∃ z, z = Builtin.zeroCells ei.zeroV.cells (grownCap w (0 + k) 0 e - (0 + k)) := ⟨_, rfl⟩
        have hzz : z.size = (grownCap w (0 + k) 0 e - (0 + k)) * ei.size := by rw [hz]; simp [Builtin.zeroCells, hzs]
        refine ⟨⟨hlen, hc2⟩, .inr ⟨w.heap.size, grownCap w (0 + k) 0 e, ([] ++ news).toArray ++ z, e, (0, 0), F, rfl, by rw [hz]; exact push_at w.drew _, .inl (Nat.le_refl _), ?_, by omega, q2, ?_, rfl⟩⟩
        · rw [Array.size_append, hzz]
          simp only [List.nil_append, List.size_toArray, hnl]
          rw [← Nat.add_mul]; congr 1; omega
        · rw [Array.toList_append, List.take_left' (by simp [hnl])]
          simp only [List.nil_append]
          exact OwL.frame _ hn (fun j hj => push_old w.drew _ j (hFl j hj))
      · rcases List.mem_cons.1 hj with rfl | hj
        · exact .inr (.inr (Nat.le_refl _))
        · exact .inr (.inl hj)
      · show w.heap.size ≤ (w.heap.push _).size
        rw [Array.size_push]; omega
      · exact push_old w.drew _ j hj
    · have hgF : g ∉ F := fun h => (List.nodup_append.1 hnd).2.2 g (by simp) g h rfl
      have hGF : ∀ j, j ∈ G → j ∉ F := fun j hj h => (List.nodup_append.1 hnd).2.2 j (by simp [hj]) j h rfl
      have hgG : g ∉ G := (List.nodup_cons.1 (List.nodup_append.1 hnd).1).1
      have hGn : G.Nodup := (List.nodup_cons.1 (List.nodup_append.1 hnd).1).2
      have hGFn : (G ++ F).Nodup := List.nodup_append.2 ⟨hGn, hF, fun a ha b hb e => hGF a ha (e ▸ hb)⟩
      have hGl := OwL.lt h7
      have hncap : n * ei.size ≤ cur.size := by rw [h4]; exact Nat.mul_le_mul_right _ h5
      by_cases hroom : n + k ≤ cap
      · -- there is room
        have hfit : n * ei.size + news.length ≤ cur.size := by rw [hnl, h4, ← Nat.add_mul]; exact Nat.mul_le_mul_right _ hroom
        have hrun := run_append_room_src (P := P) w t t2 ty e I hu hI g 0 n cap yv k news hs' hroom (fun j hj => by
          rw [cell_eq, cellAt_of h2, i1]; simp; omega) (fun j hj => unfr_frozen h2 h3 (by rw [i1]; omega))
        rw [i1, Nat.zero_add] at hrun
        obtain ⟨cur', q1, q2, q3⟩ := setCells_row news (n * ei.size) w cur h2
        obtain ⟨s1, s2, s3, s4⟩ := setCells_same (b := g) news (n * ei.size) w
        have far : ∀ j, j ≠ g → (w.setCells g (n * ei.size) news).heap[j]? = w.heap[j]? := fun j hj => setCells_far hj _ _ _
        refine ⟨_, _, hrun, g :: (G ++ F), ?_, List.nodup_cons.2 ⟨fun h => by
          rcases List.mem_append.1 h with h | h
          · exact hgG h
          · exact hgF h, hGFn⟩, fun j hj => ?_, rfl, s1, s2, s3, by rw [s4]; exact Nat.le_refl _, fun j hj hjn => far j (fun e => hjn (by simp [e]))⟩
        · simp only [Ow]
          refine ⟨⟨hlen, hc2⟩, .inr ⟨g, cap, cur', e', fr, G ++ F, rfl, q1, by rw [q3]; exact h3, by rw [q3]; exact h4, hroom, h6, ?_, rfl⟩⟩
          have ht : cur'.toList.take ((n + k) * ei.size) = cur.toList.take (n * ei.size) ++ news := by
            rw [q2, setAt_eq _ _ _ (by rw [Array.length_toList]; exact hfit)]
            exact List.take_left' (by rw [List.length_append, List.length_take, Array.length_toList, hnl, Nat.add_mul]; omega)
          rw [ht]
          exact OwL.append (OwL.frame _ h7 (fun j hj => far j (fun e => hgG (e ▸ hj)))) (OwL.frame _ hn (fun j hj => far j (fun e => hgF (e ▸ hj))))
        · rcases List.mem_cons.1 hj with rfl | hj
          · exact .inl (by simp)
          · rcases List.mem_append.1 hj with h | h
            · exact .inl (by simp [h])
            · exact .inr (.inl h)
      · -- there is none
        have hold : (Builtin.firstCells I.size n (.slice (some ⟨g, 0, none⟩) n cap)).run P w.drew = .ok (cur.toList.take (n * ei.size)).toArray w.drew := by
          rw [i1]
          refine run_firstCells_some w.drew ei.size n ⟨g, 0, none⟩ n cap _ (by rw [List.length_take, Array.length_toList]; omega) (fun j y hj => ?_)
          have : w.drew.cell? ((⟨g, 0, none⟩ : Addr).add j) = cellAt w.heap ((⟨g, 0, none⟩ : Addr).add j) := rfl
          rw [this, add_zero_off, cellAt_of h2, ← Array.getElem?_toList]
          rw [List.getElem?_take] at hj
          split at hj
          · exact hj
          · cases hj
        have hrun := run_append_grow_src (P := P) w t t2 ty e I ei.zeroV hu hI i3 (some ⟨g, 0, none⟩) n cap _ hold yv k news hs' (by omega) (by omega) (growslice_fits (by omega) (by rw [i2]; exact hb))
        obtain ⟨q1, q2⟩ := grown_bounds w (n + k) cap e hb2
        refine ⟨_, _, hrun, w.heap.size :: (G ++ F), ?_, List.nodup_cons.2 ⟨fun h => by
          rcases List.mem_append.1 h with h | h
          · exact Nat.lt_irrefl _ (hGl _ h)
          · exact Nat.lt_irrefl _ (hFl _ h), hGFn⟩, fun j hj => ?_, rfl, rfl, rfl, rfl, ?_, fun j hj _ => push_old w.drew _ j hj⟩
        · simp only [Ow]
          obtain ⟨z, hz⟩ : ∃ z, z = Builtin.zeroCells ei.zeroV.cells (grownCap w (n + k) cap e - (n + k)) := ⟨_, rfl⟩
          have hzz : z.size = (grownCap w (n + k) cap e - (n + k)) * ei.size := by rw [hz]; simp [Builtin.zeroCells, hzs]
          have hol : (cur.toList.take (n * ei.size)).length = n * ei.size := by rw [List.length_take, Array.length_toList]; omega
          refine ⟨⟨hlen, hc2⟩, .inr ⟨w.heap.size, grownCap w (n + k) cap e, (cur.toList.take (n * ei.size) ++ news).toArray ++ z, e, (0, 0), G ++ F, rfl, by rw [hz]; exact push_at w.drew _, .inl (Nat.le_refl _), ?_, q1, q2, ?_, rfl⟩⟩
          · rw [Array.size_append, hzz, List.size_toArray, List.length_append, hol, hnl, ← Nat.add_mul, ← Nat.add_mul]
            congr 1; omega
          · rw [Array.toList_append, List.take_left' (by simp only [List.length_append, hol, hnl, Nat.add_mul])]
            simp only
            exact OwL.append (OwL.frame _ h7 (fun j hj => push_old w.drew _ j (hGl j hj))) (OwL.frame _ hn (fun j hj => push_old w.drew _ j (hFl j hj)))
        · rcases List.mem_cons.1 hj with rfl | hj
          · exact .inr (.inr (Nat.le_refl _))
          · rcases List.mem_append.1 hj with h | h
            · exact .inl (by simp [h])
            · exact .inr (.inl h)
        · show w.heap.size ≤ (w.heap.push _).size
          rw [Array.size_push]; omega

theorem rowOf_ok {α : Type} {y' : α} (hτ : TTok P τ) (H : HM c hd fp m w X) {t2 : Nat} {ei : TI} (hs0 : 0 < ei.size) {y : AV} {yv : Value} {k : Nat → List Tr → AM α} (hy : AVok c hd m w.heap y yv) (hE : Ex P (rowOf τ t2 ei y k) u m y' m' A W) :
    ∃ n us m1 fp1 F A1 W1 news, Ex P (k n us) u m1 y' m' A1 W1 ∧ HM c hd fp1 m1 w (F ++ X) ∧ Src P ei.size t2 yv n news w ∧ OwL w.heap c.tags us news F ∧ cells1 us ∧ Evo hd m w.heap hd m1 w.heap := by
  unfold rowOf at hE
  split at hE
  · rename_i ti ht
    obtain ⟨d, hu, hd'⟩ := (hτ t2 _ ht).undR
    -- a slice that reads as cs
    have src : ∀ {e n cs C : _} {B : Option Addr} {vs : List Value}, P.underlying t2 = some (.slice e) → yv = .slice B n C → cs.length = n * ei.size → vs.length = (cs : List Tr).length → (cs ≠ [] → ∃ a, B = some a ∧ ∀ j y, vs[j]? = some y → cellAt w.heap (a.add j) = some y) → (∀ z, z ∈ vs → z.oneCell' = true) → Src P ei.size t2 yv n vs w := by
      intro e n cs C B vs hu' hv hl hvl hc h1
      subst hv
      by_cases hne : cs = []
      · subst hne
        have hn : n = 0 := by
          rcases Nat.eq_zero_or_pos n with h | h
          · exact h
          · have := Nat.mul_pos h hs0
            simp at hl; omega
        subst hn
        have : vs = [] := List.length_eq_zero_iff.1 hvl
        subst this
        cases B with
        | none => exact Src.ofNil w hu' C
        | some a => exact Src.ofSlice w hu' a 0 C [] (by simp) (fun j v hj => by simp at hj) (fun _ h => by cases h)
      · obtain ⟨a, rfl, hc'⟩ := hc hne
        exact Src.ofSlice w hu' a n C vs (by rw [hvl, hl]) hc' h1
    split at hE
    · rename_i hk
      rw [hk] at hd'
      have hd2 : d = .string := by cases d <;> simp [kdOf] at hd' ; rfl
      subst hd2
      split at hE
      · rename_i s
        split at hE
        · rename_i hsz
          simp only [Ex] at hE
          simp only [AVok] at hy; subst hy
          refine ⟨_, _, m, fp, [], A, W, byteCells s, hE, H, by rw [hsz]; exact Src.ofString w hu s, ?_, fun t ht => ?_, Evo.refl _ _ _⟩
          · unfold byteCells
            generalize s.data.toList = l
            induction l with
            | nil => simp [OwL]
            | cons b l ih => simp only [List.map_cons, OwL]; exact ⟨_, _, [], [], rfl, by simp [Ow], ih, rfl⟩
          · obtain ⟨b, _, rfl⟩ := List.mem_map.1 ht; rfl
        · simp only [Ex] at hE
      · simp only [Ex] at hE
    · rename_i e hk
      rw [hk] at hd'
      have hd2 : d = .slice e := by cases d <;> simp [kdOf] at hd' ; rw [hd']
      subst hd2
      split at hE
      · obtain ⟨n, cs, A1, hE, B, C, vs, hv, k1, k2, k3, k4, k5, k6⟩ := rdRow_ok H hy hE
        simp only [Ex] at hE
        obtain ⟨hsc, hE⟩ := hE
        have ho : OwL w.heap c.tags cs vs [] := by
          rcases k6 with ⟨_, k6⟩ | ⟨nm, G, _, k6, _⟩
          · exact Ow_scal hsc k6
          · exact Ow_scal' hsc k6
        have h1 : ∀ z, z ∈ vs → z.oneCell' = true := by
          intro z hz
          obtain ⟨j, hj⟩ := List.mem_iff_getElem?.1 hz
          have hjl := (List.getElem?_eq_some_iff.1 hj).1
          rw [k4] at hjl
          obtain ⟨z', G', e1, e2, _⟩ := OwL.get ho (List.getElem?_eq_getElem hjl)
          rw [hj] at e1; injection e1 with e1; subst e1
          exact Ow.oneCell (k3.2 _ (List.getElem_mem _)) H.tg1 e2
        exact ⟨n, cs, m, fp, [], A1, W, vs, hE, H, src hu hv k3.1 k4 (fun hne => by obtain ⟨a, e1, e2, _⟩ := k5 hne; exact ⟨a, e1, e2⟩) h1, ho, k3.2, Evo.refl _ _ _⟩
      · split at hE
        · rename_i nm g
          obtain ⟨vv, n, cs, B0, rfl, hm, hE⟩ := getRow_ok hE
          simp only [Ex] at hE
          obtain ⟨B2, V, _, _, hE⟩ := hE
          have hv := own_eq hy hm
          have hb := H.blk nm _ hm
          simp only [BlkOk] at hb
          obtain ⟨h1, h2⟩ := H.out hm (g := g) rfl
          -- its cells, without the block that holds them
          have hbb := hb
          simp only [Ow] at hbb
          obtain ⟨⟨hl, hc1⟩, hbb⟩ := hbb
          rcases hbb with ⟨B, e1, rfl, e3⟩ | ⟨g0, cap, cur, e', fr, G, q1, q2, q3, q4, q5, q6, q7, q8⟩
          · have : cs = [] := List.length_eq_zero_iff.1 (by simpa using hl)
            subst this
            rw [e3] at h1
            exact ⟨_, _, _, _, [], _, _, [], hE, h1, src hu (hv.trans e1) (by simp) rfl (fun h => absurd rfl h) (fun _ h => by cases h), by simp [OwL], hc1, h2⟩
          · rw [q8] at h1
            have h1' : HM c hd (upd fp nm []) (upd m nm (some (.gone g))) w (G ++ X) := by
              have := HM.leave (Y := [g0]) (X := G ++ X) (by simpa using h1)
              exact this
            refine ⟨_, _, _, _, G, _, _, _, hE, h1', src hu (hv.trans q1) hl (by rw [OwL.length q7]) (fun _ => ⟨_, rfl, fun j y hj => ?_⟩) (fun z hz => ?_), q7, hc1, h2⟩
            · rw [add_zero_off, cellAt_of q2, ← Array.getElem?_toList]
              rw [List.getElem?_take] at hj
              split at hj
              · exact hj
              · cases hj
            · obtain ⟨j, hj⟩ := List.mem_iff_getElem?.1 hz
              have hjl := (List.getElem?_eq_some_iff.1 hj).1
              rw [OwL.length q7] at hjl
              obtain ⟨z', G', e1, e2, _⟩ := OwL.get q7 (List.getElem?_eq_getElem hjl)
              rw [hj] at e1; injection e1 with e1; subst e1
              exact Ow.oneCell (hc1 _ (List.getElem_mem _)) H.tg1 e2
        · simp only [AVok] at hy
          obtain ⟨B, rfl⟩ := hy
          exact ⟨0, [], m, fp, [], A, W, [], hE, H, src hu rfl (cs := []) (by simp) rfl (fun h => absurd rfl h) (fun _ h => by cases h), by simp [OwL], by simp [cells1], Evo.refl _ _ _⟩
        · simp only [Ex] at hE
    · simp only [Ex] at hE
  · simp only [Ex] at hE

/-- the grown row gets its name -/
theorem grown_put {w' : World} {Y F : List Nat} {sz n g : Nat} {cs : List Tr} {vv : Value} {nm : Nat} (H : HM c hd fp m w ((Y ++ F) ++ X)) (hg : ∀ b0, m nm = some b0 → b0.gen < g) (hG : Grown c.tags w w' Y F sz n cs vv) :
    ∃ hd' fp', AVok c hd' (upd m nm (some (.row g 0 sz n cs))) w'.heap (.own nm g) vv ∧ HM c hd' fp' (upd m nm (some (.row g 0 sz n cs))) w' X ∧ Evo hd m w.heap hd' (upd m nm (some (.row g 0 sz n cs))) w'.heap := by
  obtain ⟨F1, h1, h2, h3, h4, h5, h6, h7, h8, h9⟩ := hG
  have := HM.step (w := w) (Y := Y ++ F) (X := X) (w' := w') H nm (blk := .row g 0 sz n cs) (v := vv) (F := F1) (Y' := []) h5 h6 h7 h8 (fun k hk _ hy => h9 k hk (fun h => hy (List.mem_append_left _ h))) (by simpa using h2)
    (fun k hk => by
      rw [List.append_nil] at hk
      rcases h3 k hk with h | h | h
      · exact .inr (.inl (List.mem_append_left _ h))
      · exact .inr (.inl (List.mem_append_right _ h))
      · exact .inr (.inr h)) (fun k hk => by cases hk)
    (fun b0 h0 => ⟨Nat.le_of_lt (hg b0 h0), fun he => absurd he (Nat.ne_of_lt (hg b0 h0))⟩) (fun E => by simp only [BlkOk, upd_same]; exact h1)
  exact ⟨_, _, own_new h4, by simpa using this.1, this.2⟩
theorem cutsOf_eq {x y : AV} {nm g i off k : Nat} (h : cutsOf x y = some (nm, g, i, off, k)) : x = .cut nm g 0 i ∧ y = .cut nm g off k := by
  unfold cutsOf at h
  split at h
  · split at h
    · rename_i h1
      obtain ⟨rfl, rfl⟩ := h1
      simp only [Option.some.injEq, Prod.mk.injEq] at h
      obtain ⟨rfl, rfl, rfl, rfl, rfl⟩ := h
      exact ⟨rfl, rfl⟩
    · cases h
  · cases h
/-- a later part of a row behind its beginning -/
theorem append_cut (H : HM c hd fp m w X) {t ty e : Nat} {ei : TI} (hu : P.underlying t = some (.slice e)) (he : TI.Ok P e ei) (hs0 : 0 < ei.size) {nm g i off k vv n : Nat} {cs : List Tr} {xv yv : Value} (hm : m nm = some (.row g vv ei.size n cs)) (hx : AVok c hd m w.heap (.cut nm g 0 i) xv) (hy : AVok c hd m w.heap (.cut nm g off k) yv) (hio : i ≤ off)
    (hb : (i + k) * ei.bytes ≤ 140737488355328) (hb2 : i + k ≤ 140737488355328) :
    ∃ vv w' hd' fp', (Builtin.append_ #[t, t] ty #[xv, yv]).run P w = .ok vv w' ∧ AVok c hd' (upd m nm (some (.row (g + 1) 0 ei.size (i + k) (cs.take (i * ei.size) ++ (cs.drop (off * ei.size)).take (k * ei.size))))) w'.heap (.own nm (g + 1)) vv ∧
      HM c hd' fp' (upd m nm (some (.row (g + 1) 0 ei.size (i + k) (cs.take (i * ei.size) ++ (cs.drop (off * ei.size)).take (k * ei.size))))) w' X ∧ Evo hd m w.heap hd' (upd m nm (some (.row (g + 1) 0 ei.size (i + k) (cs.take (i * ei.size) ++ (cs.drop (off * ei.size)).take (k * ei.size))))) w'.heap := by
  simp only [AVok] at hx hy
  obtain ⟨_, b1, hb1, _, hx⟩ := hx
  rw [hm] at hb1; injection hb1 with hb1; subst hb1
  obtain ⟨x1, A, C, rfl, x2, x3, x4, x5⟩ := hx rfl
  obtain ⟨N, hN⟩ := x5 rfl
  obtain ⟨_, b1, hb1, _, hy⟩ := hy
  rw [hm] at hb1; injection hb1 with hb1; subst hb1
  obtain ⟨y1, A', C', rfl, y2, y3, y4, _⟩ := hy rfl
  have hblk := H.blk nm _ hm
  simp only [BlkOk] at hblk
  obtain ⟨o1, o2⟩ := H.out hm (g := g) rfl
  have fin : ∀ {F0 F : List Nat}, HM c hd (upd fp nm []) (upd m nm (some (.gone g))) w ((F0 ++ F) ++ X) → Ow w.heap c.tags (.row ei.size i (cs.take (i * ei.size))) (.slice A i C) F0 → ∀ {news}, Src P ei.size t (.slice A' k C') k news w → OwL w.heap c.tags ((cs.drop (off * ei.size)).take (k * ei.size)) news F → cells1 ((cs.drop (off * ei.size)).take (k * ei.size)) → 
      ∃ vv w' hd' fp', (Builtin.append_ #[t, t] ty #[.slice A i C, .slice A' k C']).run P w = .ok vv w' ∧ AVok c hd' (upd m nm (some (.row (g + 1) 0 ei.size (i + k) (cs.take (i * ei.size) ++ (cs.drop (off * ei.size)).take (k * ei.size))))) w'.heap (.own nm (g + 1)) vv ∧
      HM c hd' fp' (upd m nm (some (.row (g + 1) 0 ei.size (i + k) (cs.take (i * ei.size) ++ (cs.drop (off * ei.size)).take (k * ei.size))))) w' X ∧ Evo hd m w.heap hd' (upd m nm (some (.row (g + 1) 0 ei.size (i + k) (cs.take (i * ei.size) ++ (cs.drop (off * ei.size)).take (k * ei.size))))) w'.heap := by
    intro F0 F h1 h2 news h3 h4 h5
    obtain ⟨vv, w', hrun, hG⟩ := append_core (ty := ty) hu he hs0 h2 h3 h4 h5 (List.nodup_append.1 h1.xnd).1 hb hb2
    obtain ⟨hd', fp', q1, q2, q3⟩ := grown_put (nm := nm) (g := g + 1) h1 (fun b0 h0 => by rw [upd_same] at h0; injection h0 with h0; subst h0; exact Nat.lt_succ_self _) hG
    have huu : ∀ b, upd (upd m nm (some (.gone g))) nm (some b) = upd m nm (some b) := fun b => by funext j; unfold upd; split <;> rfl
    rw [huu] at q1 q2 q3
    exact ⟨vv, w', hd', fp', hrun, q1, q2, o2.trans q3⟩
  have hbb := hblk
  simp only [Ow] at hbb
  obtain ⟨⟨hcl, hc1⟩, hbb⟩ := hbb
  have hc2 : ∀ {ts : List Tr}, (∀ t, t ∈ ts → t ∈ cs) → cells1 ts := fun h => hc1.sub h
  rcases hbb with ⟨B, hB, rfl, hF⟩ | ⟨g0, cap, cur, e', fr, G, q1, q2, q3, q4, q5, q6, q7, q8⟩
  · have hcs : cs = [] := List.length_eq_zero_iff.1 (by rw [hcl, Nat.zero_mul])
    subst hcs
    obtain rfl : i = 0 := by omega
    obtain rfl : k = 0 := by omega
    rw [hB] at hN
    injection hN with e1 e2 e3
    subst e1; subst e3
    have h1 : HM c hd (upd fp nm []) (upd m nm (some (.gone g))) w (([] ++ []) ++ X) := by rw [hF] at o1; exact o1
    refine fin h1 (by simp [Ow, cells1]) (news := []) ?_ (by simp [OwL]) (by simp [cells1])
    cases A' with
    | none => exact Src.ofNil w hu C'
    | some a => exact Src.ofSlice w hu a 0 C' [] (by simp) (fun j v hj => by simp at hj) (fun _ h => by cases h)
  · rw [q1] at hN
    injection hN with e1 e2 e3
    subst e1; subst e3
    have m1 : i * ei.size + (off - i) * ei.size = off * ei.size := by rw [← Nat.add_mul]; congr 1; omega
    have m2 : off * ei.size + k * ei.size ≤ n * ei.size := by rw [← Nat.add_mul]; exact Nat.mul_le_mul_right _ (by omega)
    -- four parts
    have e1 : cs = cs.take (i * ei.size) ++ ((cs.drop (i * ei.size)).take ((off - i) * ei.size) ++ ((cs.drop (off * ei.size)).take (k * ei.size) ++ (cs.drop (off * ei.size)).drop (k * ei.size))) := by
      rw [List.take_append_drop]
      have : cs.drop (off * ei.size) = (cs.drop (i * ei.size)).drop ((off - i) * ei.size) := by rw [List.drop_drop, m1]
      rw [this, List.take_append_drop, List.take_append_drop]
    rw [e1] at q7
    obtain ⟨v1, vr, G1, Gr, hv1, hG1, p1, q7⟩ := OwL.split q7
    obtain ⟨v2, vr2, G2, Gr2, hv2, hG2, p2, q7⟩ := OwL.split q7
    obtain ⟨v3, v4, G3, G4, hv3, hG3, p3, p4⟩ := OwL.split q7
    have l1 := OwL.length p1
    have l2 := OwL.length p2
    have l3 := OwL.length p3
    rw [List.length_take] at l1
    rw [List.length_take, List.length_drop] at l2 l3
    have hmi : i * ei.size ≤ n * ei.size := Nat.mul_le_mul_right _ (by omega)
    have s1 : v1.length = i * ei.size := by omega
    have s2 : v2.length = (off - i) * ei.size := by omega
    have s3 : v3.length = k * ei.size := by omega
    have hcur : cur.toList.take (n * ei.size) = v1 ++ (v2 ++ (v3 ++ v4)) := by rw [hv1, hv2, hv3]
    have hcurL : ∀ j y, (cur.toList.take (n * ei.size))[j]? = some y → cur[j]? = some y := fun j y hj => by
      rw [List.getElem?_take] at hj
      split at hj
      · rw [← Array.getElem?_toList]; exact hj
      · cases hj
    have h1 : HM c hd (upd fp nm []) (upd m nm (some (.gone g))) w (((g0 :: G1) ++ G3) ++ X) := by
      rw [q8, hG1, hG2, hG3] at o1
      have := HM.pocket o1 (X' := (G2 ++ G4) ++ (((g0 :: G1) ++ G3) ++ X)) (by
        simp only [List.cons_append, List.append_assoc]
        have a1 : (G2 ++ (G4 ++ g0 :: (G1 ++ (G3 ++ X)))).Perm (g0 :: (G2 ++ (G4 ++ (G1 ++ (G3 ++ X))))) := by
          have := List.perm_middle (a := g0) (l₁ := G2 ++ G4) (l₂ := G1 ++ (G3 ++ X))
          simpa only [List.append_assoc] using this
        refine a1.trans (List.Perm.cons _ ?_)
        have a2 : (G2 ++ (G4 ++ (G1 ++ (G3 ++ X)))).Perm (G1 ++ (G2 ++ (G4 ++ (G3 ++ X)))) := by
          have := (List.perm_append_comm (l₁ := G2 ++ G4) (l₂ := G1)).append_right (G3 ++ X)
          simpa only [List.append_assoc] using this
        refine a2.trans (List.Perm.append_left _ (List.Perm.append_left _ ?_))
        have a3 := (List.perm_append_comm (l₁ := G4) (l₂ := G3)).append_right X
        simpa only [List.append_assoc] using a3)
      exact this.leave
    refine fin h1 ?_ (news := v3) ?_ p3 (hc2 (fun t ht => List.mem_of_mem_drop (List.mem_of_mem_take ht)))
    · simp only [Ow]
      refine ⟨⟨by rw [List.length_take]; omega, hc2 (fun t ht => List.mem_of_mem_take ht)⟩, .inr ⟨g0, cap, cur, e', fr, G1, rfl, q2, q3, q4, by omega, q6, ?_, rfl⟩⟩
      have : cur.toList.take (i * ei.size) = v1 := by
        have : cur.toList.take (i * ei.size) = (cur.toList.take (n * ei.size)).take (i * ei.size) := by rw [List.take_take, Nat.min_eq_left hmi]
        rw [this, hcur, List.take_left' s1]
      rw [this]; exact p1
    · have hone : ∀ z, z ∈ v3 → z.oneCell' = true := fun z hz => by
        obtain ⟨j, hj⟩ := List.mem_iff_getElem?.1 hz
        have hjl := (List.getElem?_eq_some_iff.1 hj).1
        rw [OwL.length p3] at hjl
        obtain ⟨z', G', e1, e2, _⟩ := OwL.get p3 (List.getElem?_eq_getElem hjl)
        rw [hj] at e1; injection e1 with e1; subst e1
        exact Ow.oneCell (hc1 _ (List.mem_of_mem_drop (List.mem_of_mem_take (List.getElem_mem _)))) H.tg1 e2
      rcases Nat.eq_zero_or_pos k with h0 | h0
      · subst h0
        have : v3 = [] := List.length_eq_zero_iff.1 (by rw [s3, Nat.zero_mul])
        subst this
        cases A' with
        | none => exact Src.ofNil w hu C'
        | some a => exact Src.ofSlice w hu a 0 C' [] (by simp) (fun j v hj => by simp at hj) (fun _ h => by cases h)
      · obtain ⟨b, N', C2, e5, rfl⟩ := y4 h0
        rw [q1] at e5; injection e5 with e5; injection e5 with e5; injection e5 with e5; subst e5
        refine Src.ofSlice w hu _ k C' v3 s3 (fun j y hj => ?_) hone
        rw [cell_eq, add_off, cellAt_of q2]
        refine hcurL _ _ ?_
        rw [hcur, List.getElem?_append_right (by omega), List.getElem?_append_right (by omega)]
        rw [show off * ei.size + j - v1.length - v2.length = j by omega, List.getElem?_append_left (List.getElem?_eq_some_iff.1 hj).1]
        exact hj
theorem append_ok (hτ : TTok P τ) (H : HM c hd fp m w X) {t t2 ty D : Nat} {x y : AV} {xv yv : Value} (hx : AVok c hd m w.heap x xv) (hy : AVok c hd m w.heap y yv) (hE : Ex P (appendA τ t t2 x y D) u m v m' A W) :
    ∃ vv w' hd' fp', (Builtin.append_ #[t, t2] ty #[xv, yv]).run P w = .ok vv w' ∧ AVok c hd' m' w'.heap v vv ∧ HM c hd' fp' m' w' X ∧ Evo hd m w.heap hd' m' w'.heap := by
  unfold appendA at hE
  split at hE
  · simp only [Ex] at hE
  · rename_i ei hei
    obtain ⟨e, hu, he⟩ := elemOf_ok hτ hei
    split at hE
    · rename_i hs0
      split at hE
      · rename_i nm g i off k hcu
        obtain ⟨rfl, rfl⟩ := cutsOf_eq hcu
        split at hE
        · rename_i hio
          subst hio
          obtain ⟨vv, n, cs, B0, rfl, hm, hE⟩ := getRow_ok hE
          simp only [Ex] at hE
          obtain ⟨⟨hio, b1, b2⟩, _, _, _, _, rfl, rfl, _, _⟩ := hE
          exact append_cut H hu he hs0 hm hx hy hio b1 b2
        · simp only [Ex] at hE
      rename_i hcn
      clear hcn
      obtain ⟨k, us, m1, fp1, F, A1, W1, news, r1, r2, r3, r4, r5, r6⟩ := rowOf_ok hτ H hs0 hy hE
      have hx1 := AVok.evo r6 x hx
      split at r1
      · rename_i nm g
        obtain ⟨vv, n, cs, B0, rfl, hm, r1⟩ := getRow_ok r1
        simp only [Ex] at r1
        obtain ⟨⟨b1, b2⟩, _, _, _, _, rfl, rfl, _, _⟩ := r1
        have hv := own_eq hx1 hm
        subst hv
        have hb := r2.blk nm _ hm
        simp only [BlkOk] at hb
        obtain ⟨o1, o2⟩ := r2.out hm (g := g) rfl
        have o1' : HM c hd (upd fp1 nm []) (upd m1 nm (some (.gone g))) w ((fp1 nm ++ F) ++ X) := by rw [List.append_assoc]; exact o1
        obtain ⟨vv, w', hrun, hG⟩ := append_core (ty := ty) hu he hs0 hb r3 r4 r5 (List.nodup_append.1 o1'.xnd).1 b1 b2
        obtain ⟨hd', fp', q1, q2, q3⟩ := grown_put (nm := nm) (g := g + 1) o1' (fun b0 h0 => by rw [upd_same] at h0; injection h0 with h0; subst h0; exact Nat.lt_succ_self _) hG
        have huu : upd (upd m1 nm (some (.gone g))) nm (some (.row (g + 1) 0 ei.size (n + k) (cs ++ us))) = upd m1 nm (some (.row (g + 1) 0 ei.size (n + k) (cs ++ us))) := by funext j; unfold upd; split <;> rfl
        rw [huu] at q1 q2 q3
        exact ⟨vv, w', hd', fp', hrun, q1, q2, r6.trans (o2.trans q3)⟩
      · simp only [Ex] at r1
        obtain ⟨⟨b1, b2⟩, r1⟩ := r1
        obtain ⟨g, B, V, r1, hg⟩ := mk_ok r1
        simp only [Ex] at r1
        obtain ⟨rfl, rfl, _, _⟩ := r1
        simp only [AVok] at hx1
        obtain ⟨B, rfl⟩ := hx1
        have hnil : Ow w.heap c.tags (.row ei.size 0 []) (.slice B 0 0) [] := by simp [Ow, cells1]
        obtain ⟨vv, w', hrun, hG⟩ := append_core (ty := ty) (n := 0) (cs := []) (F0 := []) hu he hs0 hnil r3 r4 r5 (by simpa using (List.nodup_append.1 r2.xnd).1) (by simpa using b1) (by simpa using b2)
        rw [Nat.zero_add, List.nil_append] at hG
        obtain ⟨hd', fp', q1, q2, q3⟩ := grown_put (Y := []) (F := F) (nm := D) (g := g) (by simpa using r2) hg hG
        exact ⟨vv, w', hd', fp', hrun, q1, q2, r6.trans q3⟩
      · rename_i nm g i j vv
        obtain ⟨n, cs, m2, fp2, F2, A2, W2, s1, s2, s3, s4, _⟩ := takeInn_ok r2 hx1 r1
        simp only [Ex] at s1
        obtain ⟨⟨b1, b2⟩, s1⟩ := s1
        obtain ⟨g2, B, V, s1, hg⟩ := mk_ok s1
        simp only [Ex] at s1
        obtain ⟨rfl, rfl, _, _⟩ := s1
        have s2' : HM c hd fp2 m2 w ((F2 ++ F) ++ X) := by rw [List.append_assoc]; exact s2
        obtain ⟨vv, w', hrun, hG⟩ := append_core (ty := ty) hu he hs0 s3 r3 r4 r5 (List.nodup_append.1 s2'.xnd).1 b1 b2
        obtain ⟨hd', fp', q1, q2, q3⟩ := grown_put (nm := D) (g := g2) s2' hg hG
        exact ⟨vv, w', hd', fp', hrun, q1, q2, r6.trans (s4.trans q3)⟩
      · simp only [Ex] at r1
    · simp only [Ex] at hE
end
end Go.AM
/- AN ABSTRACT MACHINE, 15: what is handed to a call, what comes back. No condition of its own. -/
namespace Go.AM
open Go AM

mutual
/-- a plain tree bears no tag -/
theorem Ow.plainT {h : Heap} {T T' : List Value} : ∀ (t : Tr) {v F}, t.plain → Ow h T t v F → Ow h T' t v F
  | .int .., v, F, _, H | .bool _, v, F, _, H | .str _, v, F, _, H => by simpa only [Ow] using H
  | .row sz n cs, v, F, hp, H => by
    simp only [Ow] at H ⊢
    simp only [Tr.plain] at hp
    refine ⟨H.1, H.2.imp id ?_⟩
    rintro ⟨g, cap, cur, e, fr, G, h1, h2, h3, h4, h5, h6, h7, rfl⟩
    exact ⟨g, cap, cur, e, fr, G, h1, h2, h3, h4, h5, h6, OwL.plainT cs hp h7, rfl⟩
  | .agg cs, v, F, hp, H => by
    simp only [Ow] at H ⊢
    obtain ⟨vs, h1, h2⟩ := H
    exact ⟨vs, h1, OwL.plainT cs (by simpa only [Tr.plain] using hp) h2⟩
  | .box .., v, F, hp, H | .tag _, v, F, hp, H | .hole, v, F, hp, H | .tup _, v, F, hp, H => by simp only [Tr.plain] at hp
theorem OwL.plainT {h : Heap} {T T' : List Value} : ∀ (ts : List Tr) {vs F}, Tr.plainL ts → OwL h T ts vs F → OwL h T' ts vs F
  | [], vs, F, _, H => by simpa only [OwL] using H
  | t :: ts, vs, F, hp, H => by
    simp only [OwL] at H ⊢
    simp only [Tr.plainL] at hp
    obtain ⟨v, us, F1, F2, rfl, h1, h2, rfl⟩ := H
    exact ⟨v, us, F1, F2, rfl, Ow.plainT t hp.1 h1, OwL.plainT ts hp.2 h2, rfl⟩
end
mutual
theorem PAok.mono {h : Heap} {S S' : Nat → Prop} (hs : ∀ k, S k → S' k) : ∀ (p : PA) {v F T}, PAok h S p v F T → PAok h S' p v F T
  | .ro t, v, F, T, H => by simp only [PAok] at H ⊢; exact ⟨Rd.frame t H.1 (fun k hk => ⟨hs k hk, rfl⟩), H.2⟩
  | .own t, v, F, T, H => by simpa only [PAok] using H
  | .box t cs, v, F, T, H => by
    simp only [PAok] at H ⊢
    obtain ⟨g, cur, e, fr, G, h1, h2, h3, h4, h5, h6⟩ := H
    exact ⟨g, cur, e, fr, G, h1, h2, h3, PAokL.mono hs cs h4, h5, h6⟩
  | .agg cs, v, F, T, H => by
    simp only [PAok] at H ⊢
    obtain ⟨vs, h1, h2, h3⟩ := H
    exact ⟨vs, h1, PAokL.mono hs cs h2, h3⟩
  | .fn f, v, F, T, H => by simpa only [PAok] using H
  | .nils, v, F, T, H => by simpa only [PAok] using H
theorem PAokL.mono {h : Heap} {S S' : Nat → Prop} (hs : ∀ k, S k → S' k) : ∀ (ps : List PA) {vs F T}, PAokL h S ps vs F T → PAokL h S' ps vs F T
  | [], vs, F, T, H => by simpa only [PAokL] using H
  | p :: ps, vs, F, T, H => by
    simp only [PAokL] at H ⊢
    obtain ⟨v, us, F1, F2, T1, T2, h1, h2, h3, h4, h5⟩ := H
    exact ⟨v, us, F1, F2, T1, T2, h1, PAok.mono hs p h2, PAokL.mono hs ps h3, h4, h5⟩
end

section
variable {P : Program} {c : Ctx} {hd : Nat → Value} {fp : Nat → List Nat} {m m' : Mem} {w : World} {X : List Nat} {u : Nat → Bool} {A W : List Nat} {v : AV} {τ : TTab} {α : Type} {y : α}

theorem AVokL.append {h : Heap} : ∀ {xs ys : List AV} {vs us : List Value}, AVokL c hd m h xs vs → AVokL c hd m h ys us → AVokL c hd m h (xs ++ ys) (vs ++ us)
  | [], ys, vs, us, H, K => by simp only [AVokL] at H; subst H; simpa using K
  | x :: xs, ys, vs, us, H, K => by
    simp only [AVokL] at H
    obtain ⟨v, zs, rfl, h1, h2⟩ := H
    simp only [List.cons_append, AVokL]
    exact ⟨v, zs ++ us, rfl, h1, AVokL.append h2 K⟩

/-- where that lies which is read: what came in, or the rows of the names that l names -/
def supp (c : Ctx) (fp : Nat → List Nat) (l : List AV) (k : Nat) : Prop := c.safe k ∨ ∃ x, x ∈ l ∧ ∃ nm, AV.nm x = some nm ∧ k ∈ fp nm
def isRowB : Option Blk → Prop
  | some (.row ..) => True
  | _ => False
/-- what is a row still is the row that it was -/
def Tk (m : Mem) (fp : Nat → List Nat) (m1 : Mem) (fp1 : Nat → List Nat) : Prop := ∀ nm, isRowB (m1 nm) → m1 nm = m nm ∧ fp1 nm = fp nm
theorem Tk.refl (m : Mem) (fp : Nat → List Nat) : Tk m fp m fp := fun _ _ => ⟨rfl, rfl⟩
theorem Tk.trans {m1 m2 : Mem} {fp1 fp2 : Nat → List Nat} (h : Tk m fp m1 fp1) (k : Tk m1 fp1 m2 fp2) : Tk m fp m2 fp2 := fun nm hn => by
  obtain ⟨a1, a2⟩ := k nm hn
  obtain ⟨b1, b2⟩ := h nm (a1 ▸ hn)
  exact ⟨a1.trans b1, a2.trans b2⟩
def BkFor (b : Bk) (x : AV) : Prop :=
  match b with
  | .none => True
  | .nil => x = .nils
  | .row nm g _ _ _ => x = .own nm g
  | .inn nm g i j v _ _ => x = .inn nm g i j v
  | .box nm g t os => False
  | .agg bs => False
def BkForL : List Bk → List AV → Prop
  | [], [] => True
  | b :: bs, x :: xs => BkFor b x ∧ BkForL bs xs
  | _, _ => False
def BkForA (b : Bk) (x : AV) : Prop :=
  match b with
  | .box nm g t os => x = .ptr nm g 0 0
  | .agg bs => ∃ xs, x = .agg xs ∧ BkForL bs xs
  | b => BkFor b x
def BkForAL : List Bk → List AV → Prop
  | [], [] => True
  | b :: bs, x :: xs => BkForA b x ∧ BkForAL bs xs
  | _, _ => False
theorem BkForL.inn : ∀ {bs : List Bk} {xs : List AV}, BkForL bs xs → xs.any AV.isInn = false → bs.any Bk.inn1 = false
  | [], [], _, _ => rfl
  | b :: bs, x :: xs, h, hx => by
    simp only [BkForL] at h
    simp only [List.any_cons, Bool.or_eq_false_iff] at hx ⊢
    refine ⟨?_, BkForL.inn h.2 hx.2⟩
    cases b <;> simp only [BkFor] at h <;> first | rfl | (rw [h.1] at hx; simp [AV.isInn] at hx) | (exact h.1.elim)
/-- nothing that is read may be turned -/
def Gd (p : Bk → Bool) (bs : List Bk) (l : List AV) (m : Mem) : Prop := (bs.any p = false ∨ ∀ x, x ∈ l → AV.nm x = none) ∧ ∀ x, x ∈ l → ∀ nm, AV.nm x = some nm → isRowB (m nm)

/-- the block of a name is lent -/
theorem HM.lend (H : HM c hd fp m w X) {nm : Nat} {b b' : Blk} (hb : m nm = some b) (hg : b.gen = b'.gen) (hl : (match b' with | .lent .. => True | .lentB .. => True | _ => False)) (he : EvB (hd nm) (hd nm) w.heap w.heap b b') :
    HM c hd (upd fp nm []) (upd m nm (some b')) w (fp nm ++ X) ∧ Evo hd m w.heap hd (upd m nm (some b')) w.heap := by
  have hh : upd hd nm (hd nm) = hd := by funext k; unfold upd; split <;> simp_all
  have := HM.step (w := w) (Y := []) (X := X) (w' := w) (by simpa using H) nm (blk := b') (v := hd nm) (F := []) (Y' := fp nm) rfl rfl rfl (Nat.le_refl _) (fun _ _ _ _ => rfl) (by simpa using H.nd nm)
    (fun k hk => .inl (by simpa using hk)) (fun k hk => H.lt hk) (fun b0 h0 => by
      rw [hb] at h0; injection h0 with h0; subst h0
      exact ⟨Nat.le_of_eq hg, fun _ => he⟩) (fun _ => by
      cases b' with
      | lent _ _ _ _ => rfl
      | lentB _ _ => rfl
      | _ => exact hl.elim)
  rw [hh] at this
  exact this
theorem Tk.lend {b' : Blk} {nm : Nat} (hl : ¬ isRowB (some b')) : Tk m fp (upd m nm (some b')) (upd fp nm []) := fun nm' hn => by
  by_cases e : nm' = nm
  · subst e; rw [upd_same] at hn; exact absurd hn hl
  · exact ⟨upd_ne _ _ e, upd_ne _ _ e⟩

theorem isRo_nm {x : AV} (h : AV.isRo x = true) : AV.nm x = none := by cases x <;> simp [AV.isRo] at h <;> rfl
theorem nm_name (x : AV) : AV.nm x = x.name := by cases x <;> rfl
theorem reads_pa {x : AV} {xv : Value} {sz n : Nat} {cs : List Tr} (H : HM c hd fp m w X) (hr : Reads c fp w x xv sz n cs) (hp : AV.isRo x = true ∨ Tr.plainL cs) : Rd w.heap (supp c fp [x]) (.row sz n cs) xv ∧ xv.oneCell' = true := by
  obtain ⟨B, C, vs, rfl, k1, k2, k3, k4, k5, k6⟩ := hr
  refine ⟨?_, rfl⟩
  simp only [Rd]
  refine ⟨k3, B, C, vs, rfl, k1, k2, ?_, fun hne => ?_⟩
  · rcases k6 with ⟨_, k6⟩ | ⟨nm, G, h1, k6, h3⟩
    · exact RdL.frame _ k6 (fun k hk => ⟨.inl hk, H.same k hk⟩)
    · rcases hp with hp | hp
      · rw [← nm_name, isRo_nm hp] at h1; cases h1
      · exact RdL.frame _ (OwL.rd k6 hp) (fun k hk => ⟨.inr ⟨x, by simp, nm, by rw [nm_name]; exact h1, h3 k hk⟩, rfl⟩)
  · obtain ⟨a, e1, e2, e3⟩ := k5 hne
    refine ⟨a, e1, ?_, e2⟩
    rcases e3 with ⟨_, e3⟩ | ⟨nm, h1, h2⟩
    · exact .inl e3
    · exact .inr ⟨x, by simp, nm, by rw [nm_name]; exact h1, h2⟩

theorem hnd_ok {how : Hn} {ck : CK} {x : AV} {xv : Value} {k : PA → Bk → List AV → AM α} (H : HM c hd fp m w X) (hx : AVok c hd m w.heap x xv) (hE : Ex P (hnd how ck x k) u m y m' A W) :
    ∃ p b l m1 fp1 F T A1 W1, Ex P (k p b l) u m1 y m' A1 W1 ∧ HM c hd fp1 m1 w (F ++ X) ∧ PAok w.heap (supp c fp l) p xv F T ∧ AVokL c hd m w.heap l T ∧ Evo hd m w.heap hd m1 w.heap ∧ (b.inn1 = false → Tk m fp m1 fp1) ∧ BkFor b x ∧ xv.oneCell' = true ∧ (∀ t, t ∈ T → t.oneCell' = true) := by
  unfold hnd at hE
  split at hE
  · simp only [AVok] at hx; subst hx
    exact ⟨_, _, _, m, fp, [], [], A, W, hE, H, by simp [PAok, Rd, Tr.isRow], by simp [AVokL], Evo.refl _ _ _, fun _ => Tk.refl _ _, trivial, rfl, by simp⟩
  · simp only [AVok] at hx; subst hx
    exact ⟨_, _, _, m, fp, [], [], A, W, hE, H, by simp [PAok, Rd, Tr.isRow], by simp [AVokL], Evo.refl _ _ _, fun _ => Tk.refl _ _, trivial, rfl, by simp⟩
  · simp only [AVok] at hx; subst hx
    exact ⟨_, _, _, m, fp, [], [], A, W, hE, H, by simp [PAok, Rd, Tr.isRow], by simp [AVokL], Evo.refl _ _ _, fun _ => Tk.refl _ _, trivial, rfl, by simp⟩
  · have ro : ∀ {l : List AV} {k : PA → Bk → List AV → AM α} {A W : List Nat} {sz : Nat} {x : AV}, AVok c hd m w.heap x xv → Ex P (rdRow sz x fun n cs => if AV.isRo x then k (.ro (.row sz n cs)) .none [x] else .req (Tr.plainL cs) (k (.ro (.row sz n cs)) .none [x])) u m y m' A W →
        ∃ p b l m1 fp1 F T A1 W1, Ex P (k p b l) u m1 y m' A1 W1 ∧ HM c hd fp1 m1 w (F ++ X) ∧ PAok w.heap (supp c fp l) p xv F T ∧ AVokL c hd m w.heap l T ∧ Evo hd m w.heap hd m1 w.heap ∧ (b.inn1 = false → Tk m fp m1 fp1) ∧ BkFor b x ∧ xv.oneCell' = true ∧ (∀ t, t ∈ T → t.oneCell' = true) := by
      intro l k A W sz x hx hE
      obtain ⟨n, cs, A1, hE, hr⟩ := rdRow_ok H hx hE
      split at hE
      · rename_i hro
        obtain ⟨q1, q2⟩ := reads_pa H hr (.inl hro)
        exact ⟨_, _, _, m, fp, [], [xv], A1, W, hE, H, by simp only [PAok]; exact ⟨q1, trivial, by simp [Tr.isRow]⟩, by simp only [AVokL]; exact ⟨xv, [], rfl, hx, rfl⟩, Evo.refl _ _ _, fun _ => Tk.refl _ _, trivial, q2, by simpa using q2⟩
      · simp only [Ex] at hE
        obtain ⟨hpl, hE⟩ := hE
        obtain ⟨q1, q2⟩ := reads_pa H hr (.inr hpl)
        exact ⟨_, _, _, m, fp, [], [xv], A1, W, hE, H, by simp only [PAok]; exact ⟨q1, trivial, by simp [Tr.isRow]⟩, by simp only [AVokL]; exact ⟨xv, [], rfl, hx, rfl⟩, Evo.refl _ _ _, fun _ => Tk.refl _ _, trivial, q2, by simpa using q2⟩
    split at hE
    · exact ro (l := []) hx hE
    · simp only [AVok] at hx
      exact ⟨_, _, _, m, fp, [], [], A, W, hE, H, by simp only [PAok]; exact ⟨hx, trivial, trivial⟩, by simp [AVokL], Evo.refl _ _ _, fun _ => Tk.refl _ _, trivial, by obtain ⟨B, rfl⟩ := hx; rfl, by simp⟩
    · rename_i nm g _
      obtain ⟨vv, n, cs, B, rfl, hm, hE⟩ := getRow_ok hE
      simp only [Ex] at hE
      obtain ⟨hpl, B2, V, _, _, hE⟩ := hE
      have hv := own_eq hx hm
      subst hv
      have hb := H.blk nm _ hm
      simp only [BlkOk] at hb
      obtain ⟨h1, h2⟩ := H.lend hm (b' := .lent g vv _ n) rfl trivial ⟨rfl, rfl, rfl, Nat.le_refl _⟩
      have h1c : (hd nm).oneCell' = true := by simp only [AVok] at hx; exact hx.1
      exact ⟨_, _, _, _, _, fp nm, [], _, _, hE, h1, by simp only [PAok]; exact ⟨rfl, Ow.plainT _ (by simp only [Tr.plain]; exact hpl) hb, trivial⟩, by simp [AVokL], h2, fun _ => Tk.lend (fun h => h), rfl, h1c, by simp⟩
    · rename_i nm g i j vv _
      have h1c : xv.oneCell' = true := by simp only [AVok] at hx; exact hx.1
      obtain ⟨n, cs, m1, fp1, F, A1, W1, e1, e2, e3, e4, _⟩ := takeInn_ok H hx hE
      simp only [Ex] at e1
      obtain ⟨hpl, e1⟩ := e1
      exact ⟨_, _, _, m1, fp1, F, [], _, _, e1, e2, by simp only [PAok]; exact ⟨rfl, Ow.plainT _ (by simp only [Tr.plain]; exact hpl) e3, trivial⟩, by simp [AVokL], e4, fun h => by simp [Bk.inn1] at h, rfl, h1c, by simp⟩
    · have hx' := hx
      simp only [AVok] at hx
      obtain ⟨B, rfl⟩ := hx
      exact ⟨_, _, _, m, fp, [], [], A, W, hE, H, by simp [PAok, Tr.isRow, Ow, cells1], by simp [AVokL], Evo.refl _ _ _, fun _ => Tk.refl _ _, rfl, rfl, by simp⟩
    · exact ro (l := []) hx hE
  · simp only [Ex] at hE

theorem supp_mono {l l' : List AV} {m1 : Mem} {fp1 : Nat → List Nat} (hl : ∀ x, x ∈ l → x ∈ l') (h : (∀ x, x ∈ l → AV.nm x = none) ∨ (Tk m fp m1 fp1 ∧ ∀ x, x ∈ l → ∀ nm, AV.nm x = some nm → isRowB (m1 nm))) : ∀ k, supp c fp l k → supp c fp1 l' k := by
  rintro k (hk | ⟨x, hx, nm, hn, hk⟩)
  · exact .inl hk
  · rcases h with h | ⟨h1, h2⟩
    · rw [h x hx] at hn; cases hn
    · exact .inr ⟨x, hl x hx, nm, hn, by rw [(h1 nm (h2 x hx nm hn)).2]; exact hk⟩
/-- the first's Gd and the others' -/
theorem Gd.cons {p : Bk → Bool} {b : Bk} {bs : List Bk} {l l2 : List AV} {m1 m2 : Mem} {fp1 fp2 : Nat → List Nat} (h : Gd p (b :: bs) (l ++ l2) m2) (ht : bs.any p = false → Tk m1 fp1 m2 fp2) : Gd p [b] l m1 ∧ Gd p bs l2 m2 ∧ (∀ k, supp c fp1 l k → supp c fp2 (l ++ l2) k) ∧ (∀ k, supp c fp2 l2 k → supp c fp2 (l ++ l2) k) := by
  obtain ⟨h1, h2⟩ := h
  rcases h1 with h1 | h1
  · simp only [List.any_cons, Bool.or_eq_false_iff] at h1
    have hT := ht h1.2
    refine ⟨⟨.inl (by simpa using h1.1), fun x hx nm hn => ?_⟩, ⟨.inl h1.2, fun x hx => h2 x (by simp [hx])⟩, supp_mono (by simp_all) (.inr ⟨hT, fun x hx => h2 x (by simp [hx])⟩), supp_mono (m := m2) (by simp_all) (.inr ⟨Tk.refl _ _, fun x hx => h2 x (by simp [hx])⟩)⟩
    have := h2 x (by simp [hx]) nm hn
    rw [(hT nm this).1] at this
    exact this
  · have a1 : ∀ x, x ∈ l → AV.nm x = none := fun x hx => h1 x (by simp [hx])
    have a2 : ∀ x, x ∈ l2 → AV.nm x = none := fun x hx => h1 x (by simp [hx])
    exact ⟨⟨.inr a1, fun x hx nm hn => by rw [a1 x hx] at hn; cases hn⟩, ⟨.inr a2, fun x hx nm hn => by rw [a2 x hx] at hn; cases hn⟩, supp_mono (m := m1) (m1 := m2) (by simp_all) (.inl a1), supp_mono (m := m1) (m1 := m2) (by simp_all) (.inl a2)⟩

theorem hndL_ok {how : Hn} : ∀ (cks : List CK) (xs : List AV) {fp : Nat → List Nat} {m : Mem} {X A W : List Nat} {vs : List Value} {k : List PA → List Bk → List AV → AM α}, HM c hd fp m w X → AVokL c hd m w.heap xs vs → Ex P (hndL how cks xs k) u m y m' A W →
    ∃ ps bs l m1 fp1 F T A1 W1, Ex P (k ps bs l) u m1 y m' A1 W1 ∧ HM c hd fp1 m1 w (F ++ X) ∧ (Gd Bk.inn1 bs l m1 → PAokL w.heap (supp c fp1 l) ps vs F T) ∧ AVokL c hd m1 w.heap l T ∧ Evo hd m w.heap hd m1 w.heap ∧ (bs.any Bk.inn1 = false → Tk m fp m1 fp1) ∧ BkForL bs xs ∧ (∀ v, v ∈ vs → v.oneCell' = true) ∧ (∀ t, t ∈ T → t.oneCell' = true)
  | [], [], fp, m, X, A, W, vs, k, H, hx, hE => by
    simp only [hndL] at hE
    simp only [AVokL] at hx
    subst hx
    exact ⟨[], [], [], m, fp, [], [], A, W, hE, H, fun _ => by simp [PAokL], by simp [AVokL], Evo.refl _ _ _, fun _ => Tk.refl _ _, trivial, by simp, by simp⟩
  | ck :: cks, x :: xs, fp, m, X, A, W, vs, k, H, hx, hE => by
    simp only [hndL] at hE
    simp only [AVokL] at hx
    obtain ⟨v, us, rfl, h1, h2⟩ := hx
    obtain ⟨p, b, l, m1, fp1, F1, T1, A1, W1, e1, e2, e3, e4, e5, e6, e7, e8, e9⟩ := hnd_ok H h1 hE
    obtain ⟨ps, bs, l2, m2, fp2, F2, T2, A2, W2, q1, q2, q3, q4, q5, q6, q7, q8, q9⟩ := hndL_ok cks xs e2 (AVokL.evo e5 xs h2) e1
    refine ⟨p :: ps, b :: bs, l ++ l2, m2, fp2, F1 ++ F2, T1 ++ T2, A2, W2, q1, q2.pocket ?_, fun hg => ?_, AVokL.append (AVokL.evo (e5.trans q5) l e4) q4, e5.trans q5, fun h => ?_, ⟨e7, q7⟩, ?_, ?_⟩
    · rw [← List.append_assoc]; exact List.perm_append_comm.append_right X
    · obtain ⟨g1, g2, g3, g4⟩ := Gd.cons (c := c) (fp1 := fp1) (fp2 := fp2) (m1 := m1) hg q6
      have g5 : ∀ k, supp c fp l k → supp c fp2 (l ++ l2) k := by
        obtain ⟨g0, g0'⟩ := hg
        rcases g0 with g0 | g0
        · simp only [List.any_cons, Bool.or_eq_false_iff] at g0
          exact supp_mono (m := m) (m1 := m2) (by simp_all) (.inr ⟨(e6 g0.1).trans (q6 g0.2), fun x hx => g0' x (by simp [hx])⟩)
        · exact supp_mono (m := m) (m1 := m2) (by simp_all) (.inl fun x hx => g0 x (by simp [hx]))
      simp only [PAokL]
      exact ⟨v, us, F1, F2, T1, T2, rfl, PAok.mono g5 p e3, PAokL.mono g4 ps (q3 g2), rfl, rfl⟩
    · simp only [List.any_cons, Bool.or_eq_false_iff] at h
      exact (e6 h.1).trans (q6 h.2)
    · intro z hz
      rcases List.mem_cons.1 hz with rfl | hz
      · exact e8
      · exact q8 z hz
    · intro z hz
      rcases List.mem_append.1 hz with hz | hz
      · exact e9 z hz
      · exact q9 z hz
  | [], x :: xs, fp, m, X, A, W, vs, k, H, hx, hE => by simp only [hndL, Ex] at hE
  | ck :: cks, [], fp, m, X, A, W, vs, k, H, hx, hE => by simp only [hndL, Ex] at hE

theorem hndA_ok {how : Hn} {t : Nat} {x : AV} {v : Value} {k : PA → Bk → List AV → AM α} (H : HM c hd fp m w X) (hx : AVok c hd m w.heap x v) (hE : Ex P (hndA τ how t x k) u m y m' A W) :
    ∃ p b l m1 fp1 F T A1 W1, Ex P (k p b l) u m1 y m' A1 W1 ∧ HM c hd fp1 m1 w (F ++ X) ∧ (Gd Bk.isInn [b] l m1 → PAok w.heap (supp c fp1 l) p v F T) ∧ AVokL c hd m1 w.heap l T ∧ Evo hd m w.heap hd m1 w.heap ∧ (b.isInn = false → Tk m fp m1 fp1) ∧ BkForA b x ∧ (∀ t, t ∈ T → t.oneCell' = true) := by
  have one : ∀ {c1 : CK}, Ex P (hnd how c1 x k) u m y m' A W → ∃ p b l m1 fp1 F T A1 W1, Ex P (k p b l) u m1 y m' A1 W1 ∧ HM c hd fp1 m1 w (F ++ X) ∧ (Gd Bk.isInn [b] l m1 → PAok w.heap (supp c fp1 l) p v F T) ∧ AVokL c hd m1 w.heap l T ∧ Evo hd m w.heap hd m1 w.heap ∧ (b.isInn = false → Tk m fp m1 fp1) ∧ BkForA b x ∧ (∀ t, t ∈ T → t.oneCell' = true) := by
    intro c1 hE
    obtain ⟨p, b, l, m1, fp1, F1, T1, A1, W1, e1, e2, e3, e4, e5, e6, e7, e8, e9⟩ := hnd_ok H hx hE
    have hb : b.isInn = b.inn1 := by cases b <;> first | rfl | exact e7.elim
    have hb2 : BkForA b x := by cases b <;> first | exact e7 | exact e7.elim
    refine ⟨p, b, l, m1, fp1, F1, T1, A1, W1, e1, e2, fun hg => PAok.mono ?_ p e3, AVokL.evo e5 l e4, e5, fun h => e6 (hb ▸ h), hb2, e9⟩
    obtain ⟨g0, g0'⟩ := hg
    rcases g0 with g0 | g0
    · exact supp_mono (m := m) (m1 := m1) (fun _ h => h) (.inr ⟨e6 (by simpa [hb] using g0), g0'⟩)
    · exact supp_mono (m := m) (m1 := m1) (fun _ h => h) (.inl g0)
  unfold hndA at hE
  split at hE
  · rename_i f
    simp only [AVok] at hx
    subst hx
    exact ⟨_, _, _, m, fp, [], [], A, W, hE, H, fun _ => by simp [PAok], by simp [AVokL], Evo.refl _ _ _, fun _ => Tk.refl _ _, trivial, by simp⟩
  · rename_i xs
    split at hE
    · split at hE
      · simp only [AVok] at hx
        obtain ⟨vs, rfl, h2, h3⟩ := hx
        obtain ⟨ps, bs, l, m1, fp1, F, T, A1, W1, q1, q2, q3, q4, q5, q6, q7, q8, q9⟩ := hndL_ok _ _ H h2 hE
        refine ⟨_, _, _, m1, fp1, F, T, A1, W1, q1, q2, fun hg => ?_, q4, q5, fun h => q6 h, ⟨xs, rfl, q7⟩, q9⟩
        simp only [PAok]
        exact ⟨vs, rfl, q3 ⟨by simpa [Bk.isInn] using hg.1, hg.2⟩, h3⟩
      · simp only [Ex] at hE
    · simp only [Ex] at hE
  · rename_i nm g
    · obtain ⟨t', cs, B, rfl, hm, hE⟩ := getBox_ok hE
      · split at hE
        · rename_i j hj
          simp only [Ex] at hE
          obtain ⟨B2, V, _, _, hE⟩ := hE
          have hb := H.blk nm _ hm
          simp only [BlkOk] at hb
          obtain ⟨b, cur, e0, fr, h1, h2, h3, h4, h5, h6⟩ := hb
          obtain ⟨k1, k2⟩ := H.lend hm (b' := .lentB g t') rfl trivial (by simp only [EvB])
          obtain ⟨ps, bs, l, m1, fp1, F, T, A1, W1, q1, q2, q3, q4, q5, q6, q7, q8, q9⟩ := hndL_ok _ _ k1 (AVokL.evo k2 cs h4) hE
          rw [h6] at q2
          refine ⟨_, _, _, m1, fp1, b :: F, T, A1, W1, q1, q2.pocket ?_, fun hg => ?_, q4, k2.trans q5, fun h => (Tk.lend (b' := .lentB g t') (fun h => h)).trans (q6 (BkForL.inn q7 (by simpa [Bk.isInn, Bk.inn1] using h))), rfl, q9⟩
          · rw [List.cons_append]
            exact (List.perm_middle (l₁ := F) (l₂ := X) (a := b)).symm
          · simp only [PAok]
            have hv : v = .pointer (some ⟨b, 0, none⟩) := by
              simp only [AVok] at hx
              obtain ⟨b2, hb2, hg2, hk2⟩ := hx.2
              rw [hm] at hb2; injection hb2 with hb2; subst hb2
              obtain ⟨_, b3, r1, r2⟩ := hk2 rfl
              rw [h1] at r1; injection r1 with r1; injection r1 with r1; injection r1 with r1
              rw [r2, r1]
            refine ⟨b, cur, e0, fr, F, hv, h2, h3, q3 ⟨?_, hg.2⟩, h5, rfl⟩
            rcases hg.1 with h | h
            · exact .inl (BkForL.inn q7 (by simpa [Bk.isInn, Bk.inn1] using h))
            · exact .inr h
        · simp only [Ex] at hE
  · split at hE
    · split at hE
      · simp only [Ex] at hE
      · exact one hE
    · simp only [Ex] at hE

theorem hndAL_ok : ∀ (ms : List Hn) (ts : List Nat) (xs : List AV) {fp : Nat → List Nat} {m : Mem} {X A W : List Nat} {vs : List Value} {k : List PA → List Bk → List AV → AM α}, HM c hd fp m w X → AVokL c hd m w.heap xs vs → Ex P (hndAL τ ms ts xs k) u m y m' A W →
    ∃ ps bs l m1 fp1 F T A1 W1, Ex P (k ps bs l) u m1 y m' A1 W1 ∧ HM c hd fp1 m1 w (F ++ X) ∧ (Gd Bk.isInn bs l m1 → PAokL w.heap (supp c fp1 l) ps vs F T) ∧ AVokL c hd m1 w.heap l T ∧ Evo hd m w.heap hd m1 w.heap ∧ (bs.any Bk.isInn = false → Tk m fp m1 fp1) ∧ BkForAL bs xs ∧ (∀ t, t ∈ T → t.oneCell' = true)
  | ms, [], [], fp, m, X, A, W, vs, k, H, hx, hE => by
    simp only [hndAL] at hE
    simp only [AVokL] at hx
    subst hx
    exact ⟨[], [], [], m, fp, [], [], A, W, hE, H, fun _ => by simp [PAokL], by simp [AVokL], Evo.refl _ _ _, fun _ => Tk.refl _ _, trivial, by simp⟩
  | ms, t :: ts, x :: xs, fp, m, X, A, W, vs, k, H, hx, hE => by
    simp only [hndAL] at hE
    simp only [AVokL] at hx
    obtain ⟨v, us, rfl, h1, h2⟩ := hx
    obtain ⟨p, b, l, m1, fp1, F1, T1, A1, W1, e1, e2, e3, e4, e5, e6, e7, e9⟩ := hndA_ok H h1 hE
    obtain ⟨ps, bs, l2, m2, fp2, F2, T2, A2, W2, q1, q2, q3, q4, q5, q6, q7, q9⟩ := hndAL_ok ms.tail ts xs e2 (AVokL.evo e5 xs h2) e1
    refine ⟨p :: ps, b :: bs, l ++ l2, m2, fp2, F1 ++ F2, T1 ++ T2, A2, W2, q1, q2.pocket ?_, fun hg => ?_, AVokL.append (AVokL.evo q5 l e4) q4, e5.trans q5, fun h => ?_, ⟨e7, q7⟩, ?_⟩
    · rw [← List.append_assoc]; exact List.perm_append_comm.append_right X
    · obtain ⟨g1, g2, g3, g4⟩ := Gd.cons (c := c) (fp1 := fp1) (fp2 := fp2) (m1 := m1) hg q6
      simp only [PAokL]
      exact ⟨v, us, F1, F2, T1, T2, rfl, PAok.mono g3 p (e3 g1), PAokL.mono g4 ps (q3 g2), rfl, rfl⟩
    · simp only [List.any_cons, Bool.or_eq_false_iff] at h
      exact (e6 h.1).trans (q6 h.2)
    · intro z hz
      rcases List.mem_append.1 hz with hz | hz
      · exact e9 z hz
      · exact q9 z hz
  | ms, [], x :: xs, fp, m, X, A, W, vs, k, H, hx, hE => by simp only [hndAL, Ex] at hE
  | ms, t :: ts, [], fp, m, X, A, W, vs, k, H, hx, hE => by simp only [hndAL, Ex] at hE

theorem chk_ok {bs : List Bk} : ∀ (l : List AV) {k : AM α} {A : List Nat}, Ex P (chk bs l k) u m y m' A W → ∃ A1, Ex P k u m y m' A1 W ∧ Gd Bk.isInn bs l m
  | [], k, A, hE => ⟨A, by simpa only [chk] using hE, .inr (by simp), by simp⟩
  | x :: xs, k, A, hE => by
    simp only [chk] at hE
    cases hn : AV.nm x with
    | none =>
      rw [hn] at hE
      obtain ⟨A1, h1, h2, h3⟩ := chk_ok xs hE
      refine ⟨A1, h1, h2.imp id (fun h z hz => ?_), fun z hz => ?_⟩
      · rcases List.mem_cons.1 hz with rfl | hz
        · exact hn
        · exact h z hz
      · rcases List.mem_cons.1 hz with rfl | hz
        · intro nm h; rw [hn] at h; cases h
        · exact h3 z hz
    | some nm =>
      rw [hn] at hE
      simp only [Ex] at hE
      obtain ⟨B, rfl, hE⟩ := hE
      cases hm : m nm with
      | none => rw [hm] at hE; simp only [Ex] at hE
      | some b =>
        rw [hm] at hE
        cases b with
        | row g v sz n cs =>
          simp only at hE
          split at hE
          · simp only [Ex] at hE
          · rename_i hno
            obtain ⟨A1, h1, h2, h3⟩ := chk_ok xs hE
            refine ⟨A1, h1, .inl (by simpa using hno), fun z hz => ?_⟩
            rcases List.mem_cons.1 hz with rfl | hz
            · intro nm' h; rw [hn] at h; injection h with h; subst h; rw [hm]; trivial
            · exact h3 z hz
        | _ => simp only [Ex] at hE
end
end Go.AM
