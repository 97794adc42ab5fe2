/- AN ABSTRACT MACHINE, 9: places, numbers, lengths, cuts, conversions. No condition of its own. -/
import Derived.Test.YtbkpmljdmlhmhaaA7
set_option linter.unusedVariables false
set_option linter.unusedSimpArgs false
namespace Go.AM
open Go AM

section
variable {P : Program} {c : Ctx} {hd : Nat → Value} {fp : Nat → List Nat} {m m' : Mem} {w : World} {X : List Nat} {u : Nat → Bool} {A W : List Nat} {v : AV} {τ : TTab}

theorem run_fieldPlace {f : Field} {fi : TI} (h : TI.Ok P f.type fi) (h0 : 0 < fi.size) (a : Addr) (w : World) : (fieldPlace a f).run P w = .ok (a.add f.offset) w := by
  have : ¬ (fi.size = 0) := by omega
  simp only [fieldPlace, Sem.run_bind, h.size, Result.andThen_ok, this, if_false, Sem.run_pure]
theorem fieldPtr_ok (hτ : TTok P τ) (H : HM c hd fp m w X) {t f : Nat} {x : AV} {xv : Value} (hx : AVok c hd m w.heap x xv) (hE : Ex P (fieldPtr τ t x f) u m v m' A W) :
    m' = m ∧ ∃ vv, (Instr.fieldAt t xv f).run P w = .ok vv w ∧ AVok c hd m w.heap v vv := by
  unfold fieldPtr at hE
  split at hE
  · rename_i fs _ _ _ ht
    obtain ⟨fields, hu, hfs⟩ := (hτ t _ ht).struct rfl
    split at hE
    · rename_i o ft hf
      rw [← hfs, List.getElem?_map] at hf
      obtain ⟨fl, hfl, he⟩ := Option.map_eq_some_iff.1 hf
      simp only [Prod.mk.injEq] at he
      obtain ⟨rfl, rfl⟩ := he
      rw [Array.getElem?_toList] at hfl
      split at hE
      · rename_i fi hfi
        split at hE
        · rename_i h0
          have hrun : ∀ a : Addr, (Instr.fieldAt t (.pointer (some a)) f).run P w = .ok (.pointer (some (a.add fl.offset))) w := fun a => by
            simp only [Instr.fieldAt, Sem.run_bind, run_underlying hu, Result.andThen_ok, hfl, Instr.sureAddr, Sem.run_pure, run_fieldPlace (hτ _ fi hfi) h0]
          split at hE
          · simp only [Ex] at hE
            obtain ⟨rfl, rfl, _, _⟩ := hE
            refine ⟨rfl, ?_⟩
            simp only [AVok] at hx
            obtain ⟨h1, b, hb, hg, hk⟩ := hx
            obtain ⟨a, rfl⟩ := h1
            refine ⟨_, hrun a, ?_⟩
            simp only [AVok]
            refine ⟨⟨_, rfl⟩, b, hb, hg, fun e => ?_⟩
            have := hk e
            cases b with
            | row g' vv sz n cs =>
              obtain ⟨hi, b', N, C, k1, k2⟩ := this
              injection k2 with k2; injection k2 with k2
              subst k2
              exact ⟨hi, b', N, C, k1, by rw [add_off, Nat.add_assoc]⟩
            | box g' t' cs =>
              obtain ⟨hi, b', k1, k2⟩ := this
              injection k2 with k2; injection k2 with k2
              subst k2
              exact ⟨hi, b', k1, by rw [add_off]⟩
            | gone g' => trivial
            | lent g' vv sz n =>
              obtain ⟨hi, b', N, C, k1, k2⟩ := this
              injection k2 with k2; injection k2 with k2
              subst k2
              exact ⟨hi, b', N, C, k1, by rw [add_off, Nat.add_assoc]⟩
            | lentB g' t' =>
              obtain ⟨hi, b', k1, k2⟩ := this
              injection k2 with k2; injection k2 with k2
              subst k2
              exact ⟨hi, b', k1, by rw [add_off]⟩
          · simp only [Ex] at hE
            obtain ⟨rfl, rfl, _, _⟩ := hE
            refine ⟨rfl, ?_⟩
            simp only [AVok] at hx
            obtain ⟨a, vs, rfl, hs, h2, h3, h4⟩ := hx
            refine ⟨_, hrun a, ?_⟩
            simp only [AVok]
            refine ⟨_, vs.drop fl.offset, rfl, by rw [add_block]; exact hs, RdL.drop _ h2, fun j y hj => ?_, h4.sub (fun t ht => List.mem_of_mem_drop ht)⟩
            rw [List.getElem?_drop] at hj
            rw [add_add]
            exact h3 _ y hj
          · simp only [Ex] at hE
        · simp only [Ex] at hE
      · simp only [Ex] at hE
    · simp only [Ex] at hE
  · simp only [Ex] at hE

theorem part_ok (hτ : TTok P τ) {t off : Nat} {cs : List AV} {vs : List Value} (hx : AVokL c hd m w.heap cs vs) (h1 : ∀ u, u ∈ vs → u.oneCell' = true) (hE : Ex P (AM.part τ t cs off) u m v m' A W) :
    m' = m ∧ ∃ vv, (Go.part t vs.toArray off).run P w = .ok vv w ∧ AVok c hd m w.heap v vv := by
  unfold AM.part at hE
  split at hE
  · rename_i i hi
    have hti := hτ t i hi
    split at hE
    · rename_i hk
      simp only [Ex] at hE
      obtain ⟨rfl, rfl, _, _⟩ := hE
      refine ⟨rfl, _, by simp only [Go.part, Sem.run_bind, hti.isAgg, Result.andThen_ok, hk, if_true, hti.size, Sem.run_pure]; rfl, ?_⟩
      simp only [AVok]
      refine ⟨_, rfl, ?_, fun z hz => ?_⟩
      · rw [Array.toList_extract]
        have := AVokL.take i.size (AVokL.drop off hx)
        simpa [List.extract_eq_take_drop, Nat.add_sub_cancel_left] using this
      · rw [Array.toList_extract] at hz
        simp only [List.extract_eq_take_drop] at hz
        exact h1 z (List.mem_of_mem_drop (List.mem_of_mem_take (by simpa using hz)))
    · rename_i hk
      have hk' : i.kd.agg = false := by simpa using hk
      split at hE
      · rename_i x hx'
        simp only [Ex] at hE
        obtain ⟨rfl, rfl, _, _⟩ := hE
        obtain ⟨vv, q1, q2⟩ := AVokL.get hx hx'
        refine ⟨rfl, vv, ?_, q2⟩
        simp only [Go.part, Sem.run_bind, hti.isAgg, Result.andThen_ok, hk', Bool.false_eq_true, if_false, List.getElem?_toArray, q1, Sem.run_pure]
      · simp only [Ex] at hE
  · simp only [Ex] at hE
theorem fieldVal_ok (hτ : TTok P τ) {t f : Nat} {x : AV} {xv : Value} (hx : AVok c hd m w.heap x xv) (hE : Ex P (fieldVal τ t x f) u m v m' A W) :
    m' = m ∧ ∃ vv, (Instr.field t xv f).run P w = .ok vv w ∧ AVok c hd m w.heap v vv := by
  unfold fieldVal at hE
  split at hE
  · rename_i fs _ _ _ ht
    obtain ⟨fields, hu, hfs⟩ := (hτ t _ ht).struct rfl
    split at hE
    · rename_i o ft cs hf
      rw [← hfs, List.getElem?_map] at hf
      obtain ⟨fl, hfl, he⟩ := Option.map_eq_some_iff.1 hf
      simp only [Prod.mk.injEq] at he
      obtain ⟨rfl, rfl⟩ := he
      rw [Array.getElem?_toList] at hfl
      simp only [AVok] at hx
      obtain ⟨vs, rfl, h2, h3⟩ := hx
      obtain ⟨rfl, vv, q1, q2⟩ := part_ok (w := w) hτ h2 h3 hE
      refine ⟨rfl, vv, ?_, q2⟩
      simp only [Instr.field, Sem.run_bind, run_underlying hu, Result.andThen_ok, hfl, asAgg, Sem.run_pure]
      simpa using q1
    · simp only [Ex] at hE
  · simp only [Ex] at hE

theorem slice_of_row {h : Heap} {tg : List Value} {sz n : Nat} {cs : List Tr} {x : Value} {F : List Nat} (H : Ow h tg (.row sz n cs) x F) : ∃ B C, x = .slice B n C ∧ n ≤ C ∧ C ≤ maxL ∧ (0 < n → ∃ b, B = some ⟨b, 0, none⟩) ∧ (0 < C → ∃ b, B = some ⟨b, 0, none⟩) := by
  simp only [Ow] at H
  rcases H.2 with ⟨B, rfl, rfl, _⟩ | ⟨g, cap, cur, e, fr, G, rfl, _, _, _, h5, h6, _, _⟩
  · exact ⟨B, 0, rfl, Nat.le_refl _, by unfold maxL; omega, fun h => absurd h (Nat.lt_irrefl _), fun h => absurd h (Nat.lt_irrefl _)⟩
  · exact ⟨_, cap, rfl, h5, h6, fun _ => ⟨g, rfl⟩, fun _ => ⟨g, rfl⟩⟩
theorem run_indexAt {t e : Nat} {ei : TI} (hu : P.underlying t = some (.slice e)) (he : TI.Ok P e ei) (a : Addr) (n C : Nat) (k : IntKind) (i : Int) (h0 : 0 ≤ i) (h1 : i < n) (w : World) :
    (Instr.indexAt t (.slice (some a) n C) (.int k i)).run P w = .ok (.pointer (some (a.add (i.toNat * ei.size)))) w := by
  simp [Instr.indexAt, asIntOf, run_underlying hu, h0, h1, he.size]
theorem indexPtr_ok (hτ : TTok P τ) (H : HM c hd fp m w X) {t : Nat} {x ix : AV} {xv iv : Value} (hx : AVok c hd m w.heap x xv) (hi : AVok c hd m w.heap ix iv) (hE : Ex P (indexPtr τ t x ix) u m v m' A W) :
    m' = m ∧ ∃ vv, (Instr.indexAt t xv iv).run P w = .ok vv w ∧ AVok c hd m w.heap v vv := by
  unfold indexPtr at hE
  split at hE
  · rename_i e _ _ _ k i ht
    have hu := (hτ t _ ht).slice rfl w
    simp only [AVok] at hi
    subst hi
    split at hE
    · rename_i ei hei
      have hee := hτ e ei hei
      split at hE
      · split at hE
        · rename_i sz n cs hc
          obtain ⟨rfl, hs0⟩ := hc
          simp only [Ex] at hE
          obtain ⟨⟨h0, h1⟩, rfl, rfl, _, _⟩ := hE
          simp only [AVok, Rd] at hx
          obtain ⟨⟨hl, B, C, vs, rfl, k1, k2, k3, k4⟩, _⟩ := hx
          have hne : cs ≠ [] := by
            intro he
            rw [he] at hl
            have h2 : 0 < n * ei.size := Nat.mul_pos (by omega) hs0
            have h3 : (0 : Nat) = n * ei.size := hl.1
            omega
          obtain ⟨a, rfl, hs, hc⟩ := k4 hne
          refine ⟨rfl, _, run_indexAt hu hee a n C k i h0 h1 w, ?_⟩
          simp only [AVok]
          refine ⟨_, (vs.drop (i.toNat * ei.size)).take ei.size, rfl, by rw [add_block]; exact hs, RdL.take _ (RdL.drop _ k3), fun j y hj => ?_, hl.2.sub (fun t ht => List.mem_of_mem_drop (List.mem_of_mem_take ht))⟩
          rw [List.getElem?_take] at hj
          split at hj
          · rw [List.getElem?_drop] at hj
            rw [add_add]; exact hc _ y hj
          · cases hj
        · simp only [Ex] at hE
      · rename_i nm g
        obtain ⟨vv, n, cs, B, rfl, hm, hE⟩ := getRow_ok hE
        simp only [Ex] at hE
        obtain ⟨⟨h0, h1⟩, rfl, rfl, _, _⟩ := hE
        have hv := own_eq hx hm
        subst hv
        obtain ⟨B, C, k1, k2, k3, k4, _⟩ := slice_of_row (H.blk nm _ hm)
        obtain ⟨b, rfl⟩ := k4 (by omega)
        refine ⟨rfl, _, by rw [k1]; exact run_indexAt hu hee _ n C k i h0 h1 w, ?_⟩
        simp only [AVok]
        exact ⟨⟨_, rfl⟩, _, hm, Nat.le_refl _, fun _ => ⟨by omega, b, n, C, k1, by rw [add_zero_off, Nat.add_zero]⟩⟩
      · rename_i nm g off n
        obtain ⟨vv, N, cs, B, rfl, hm, hE⟩ := getRow_ok hE
        simp only [Ex] at hE
        obtain ⟨⟨h0, h1⟩, rfl, rfl, _, _⟩ := hE
        simp only [AVok] at hx
        obtain ⟨_, b0, hb0, hg, hk⟩ := hx
        rw [hm] at hb0; injection hb0 with hb0; subst hb0
        obtain ⟨q1, A, C, rfl, q2, q3, q4, _⟩ := hk rfl
        obtain ⟨b, N', C', q5, rfl⟩ := q4 (by omega)
        refine ⟨rfl, _, run_indexAt hu hee _ n C k i h0 h1 w, ?_⟩
        simp only [AVok]
        exact ⟨⟨_, rfl⟩, _, hm, Nat.le_refl _, fun _ => ⟨by omega, b, N', C', q5, by rw [add_off, Nat.add_zero, Nat.add_mul]⟩⟩
      · simp only [Ex] at hE
    · simp only [Ex] at hE
  · simp only [Ex] at hE

theorem indexVal_ok (hτ : TTok P τ) {t : Nat} {x ix : AV} {xv iv : Value} (hx : AVok c hd m w.heap x xv) (hi : AVok c hd m w.heap ix iv) (hE : Ex P (indexVal τ t x ix) u m v m' A W) :
    m' = m ∧ ∃ vv, (Instr.index t xv iv).run P w = .ok vv w ∧ AVok c hd m w.heap v vv := by
  unfold indexVal at hE
  split at hE
  · rename_i s k i
    simp only [AVok] at hx hi
    subst hx; subst hi
    split at hE
    · rename_i sh hk
      simp only [Ex] at hE
      obtain ⟨⟨h0, h1⟩, rfl, rfl, _, _⟩ := hE
      obtain ⟨d, hu, hd'⟩ := (hτ t _ hk).undR
      have hd2 : d = .string := by cases d <;> simp [kdOf] at hd' ; rfl
      subst hd2
      have hlt : i.toNat < s.size := by omega
      refine ⟨rfl, .int .u8 (strAt s i.toNat), ?_, by simp only [AVok]⟩
      have : s[i.toNat]? = some s[i.toNat] := by simp [hlt]
      simp only [Instr.index, Sem.run_bind, asIntOf, Sem.run_pure, Result.andThen_ok, run_underlying hu, h0, if_true, this]
      congr 2
      unfold strAt
      have h3 : s.data.toList.getD i.toNat 0 = s[i.toNat] := by
        have : i.toNat < s.data.toList.length := by simpa using hlt
        rw [List.getD_eq_getElem?_getD, List.getElem?_eq_getElem this]
        rfl
      rw [h3]
    · simp only [Ex] at hE
  · simp only [Ex] at hE

theorem lenVal_ok (hτ : TTok P τ) (H : HM c hd fp m w X) {t ty : Nat} {x : AV} {xv : Value} (hx : AVok c hd m w.heap x xv) (hE : Ex P (lenVal τ t x) u m v m' A W) :
    m' = m ∧ ∃ vv, (Builtin.len_ #[t] ty #[xv]).run P w = .ok vv w ∧ AVok c hd m w.heap v vv := by
  unfold lenVal at hE
  split at hE
  · rename_i ti ht
    have hti := hτ t ti ht
    obtain ⟨d, hu, hd'⟩ := hti.undR
    have hsl : ∀ e, ti.kd = .slice e → ∀ (B : Option Addr) (n C : Nat), (Builtin.len_ #[t] ty #[.slice B n C]).run P w = .ok (goInt n) w := fun e he B n C => by
      have := hti.slice he w
      simp [Builtin.len_, run_underlying this]
    split at hE
    · rename_i s hk
      rw [hk] at hd'
      have hd2 : d = .string := by cases d <;> simp [kdOf] at hd' ; rfl
      subst hd2
      simp only [Ex] at hE
      obtain ⟨rfl, rfl, _, _⟩ := hE
      simp only [AVok] at hx
      subst hx
      exact ⟨rfl, _, by simp [Builtin.len_, run_underlying hu]; rfl, by simp only [AVok, goInt]⟩
    · rename_i x e hk
      split at hE
      · simp only [Ex] at hE
        obtain ⟨rfl, rfl, _, _⟩ := hE
        simp only [AVok] at hx
        obtain ⟨B, rfl⟩ := hx
        exact ⟨rfl, _, hsl e hk _ _ _, by simp [AVok, goInt]⟩
      · simp only [Ex] at hE
        obtain ⟨rfl, rfl, _, _⟩ := hE
        simp only [AVok, Rd] at hx
        obtain ⟨⟨_, B, C, vs, rfl, _⟩, _⟩ := hx
        exact ⟨rfl, _, hsl e hk _ _ _, by simp [AVok, goInt]⟩
      · simp only [Ex] at hE
        obtain ⟨rfl, rfl, _, _⟩ := hE
        simp only [AVok] at hx
        obtain ⟨⟨B, C, rfl, _⟩, _⟩ := hx
        exact ⟨rfl, _, hsl e hk _ _ _, by simp [AVok, goInt]⟩
      · rename_i nm g
        simp only [Ex] at hE
        obtain ⟨B, rfl, hE⟩ := hE
        split at hE
        · rename_i g' vv sz n cs hm
          split at hE
          · rename_i hg
            subst hg
            simp only [Ex] at hE
            obtain ⟨rfl, rfl, _, _⟩ := hE
            have hv := own_eq hx hm
            subst hv
            obtain ⟨B, C, k1, _⟩ := slice_of_row (H.blk nm _ hm)
            exact ⟨rfl, _, by rw [k1]; exact hsl e hk _ _ _, by simp [AVok, goInt]⟩
          · simp only [Ex] at hE
        · simp only [Ex] at hE
      · rename_i nm g i j vv
        split at hE
        · rename_i ei hei
          obtain ⟨sz', n, cs, n2, cs2, B, rfl, hm, hi, hj, hL, hE, g0, cap, cur, e', fr, G, k1, k2, k3, k4, k5, k6, k7, k8, k9, k10, k11⟩ := getInn_ok H hx hE
          simp only [Ex] at hE
          obtain ⟨rfl, rfl, _, _⟩ := hE
          rw [el_get _ _ _ _ hj] at hL
          obtain ⟨v0, G1, q1, q2, _⟩ := OwL.get k7 hL
          rw [k11] at q1; injection q1 with q1; subst q1
          obtain ⟨B, C, r1, _⟩ := slice_of_row q2
          exact ⟨rfl, _, by rw [r1]; exact hsl e hk _ _ _, by simp [AVok, goInt]⟩
        · simp only [Ex] at hE
      · simp only [Ex] at hE
    · simp only [Ex] at hE
  · simp only [Ex] at hE
end
end Go.AM
