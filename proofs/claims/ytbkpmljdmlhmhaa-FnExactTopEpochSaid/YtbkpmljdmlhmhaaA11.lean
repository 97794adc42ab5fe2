/- AN ABSTRACT MACHINE, 12: cuts, conversions, structs made. No condition of its own. -/
import Derived.Test.YtbkpmljdmlhmhaaA10
set_option linter.unusedVariables false
set_option linter.unusedSimpArgs false
namespace Go.AM
open Go AM

section
variable {P : Program} {c : Ctx} {hd : Nat → Value} {fp : Nat → List Nat} {m m' : Mem} {w : World} {X : List Nat} {u : Nat → Bool} {A W : List Nat} {v : AV} {τ : TTab}

theorem elemOf_ok (hτ : TTok P τ) {t : Nat} {ei : TI} (h : elemOf τ t = some ei) : ∃ e, P.underlying t = some (.slice e) ∧ TI.Ok P e ei := by
  unfold elemOf at h
  split at h
  · rename_i e _ _ _ ht
    exact ⟨e, (hτ t _ ht).slice rfl default, hτ e ei h⟩
  · cases h
theorem run_sliceAt {t e : Nat} {ei : TI} (hu : P.underlying t = some (.slice e)) (he : TI.Ok P e ei) {B : Option Addr} {n C l h : Nat} {lov hiv : Option Value} (hb : (Instr.sliceBounds true n C lov hiv none).run P w = .ok (l, h, C) w) :
    (Instr.sliceAt t (.slice B n C) lov hiv none).run P w = .ok (.slice (if C = l then B else B.map (·.add (l * ei.size))) (h - l) (C - l)) w := by
  simp only [Instr.sliceAt, Sem.run_bind, run_underlying hu, Result.andThen_ok, Instr.slice, hb, he.size, Sem.run_pure]
theorem sliceVal_ok (hτ : TTok P τ) (H : HM c hd fp m w X) {t : Nat} {x : AV} {xv : Value} {lo hi : Option AV} {lov hiv : Option Value} (hx : AVok c hd m w.heap x xv)
    (h1 : ∀ x, lo = some x → ∃ y, lov = some y ∧ AVok c hd m w.heap x y) (h2 : lo = none → lov = none) (h3 : ∀ x, hi = some x → ∃ y, hiv = some y ∧ AVok c hd m w.heap x y) (h4 : hi = none → hiv = none)
    (hE : Ex P (sliceVal τ t x lo hi none) u m v m' A W) : m' = m ∧ ∃ vv, (Instr.sliceAt t xv lov hiv none).run P w = .ok vv w ∧ AVok c hd m w.heap v vv := by
  unfold sliceVal at hE
  simp only at hE
  split at hE
  · rename_i s
    simp only [AVok] at hx; subst hx
    split at hE
    · rename_i hk
      obtain ⟨d, hu, hd'⟩ := (hτ t _ hk).undR
      have hd2 : d = .string := by cases d <;> simp [kdOf] at hd' ; rfl
      subst hd2
      split at hE
      · rename_i l h hl hh
        simp only [Ex] at hE
        obtain ⟨⟨b0, b1, b2⟩, rfl, rfl, _, _⟩ := hE
        have := run_bounds (P := P) (isSlice := false) (cap := s.size) hl hh h1 h2 h3 h4 b0 b1 b2 (Nat.le_refl _)
        exact ⟨rfl, _, by simp [Instr.sliceAt, Instr.slice, run_underlying hu, this]; rfl, by simp only [AVok]⟩
      · simp only [Ex] at hE
    · simp only [Ex] at hE
  · split at hE
    · simp only [Ex] at hE
    · rename_i ei hei
      obtain ⟨e, hu, he⟩ := elemOf_ok hτ hei
      split at hE
      · rename_i tg sz n cs _
        split at hE
        · rename_i l h hl hh
          split at hE
          · rename_i hs
            subst hs
            simp only [Ex] at hE
            obtain ⟨⟨b0, b1, b2⟩, rfl, rfl, _, _⟩ := hE
            simp only [AVok, Rd] at hx
            obtain ⟨⟨hlc, B, C, vs, rfl, k1, k2, k3, k4⟩, _⟩ := hx
            refine ⟨rfl, _, run_sliceAt hu he (run_bounds (isSlice := true) hl hh h1 h2 h3 h4 b0 b1 b2 k1), ?_⟩
            simp only [AVok]
            refine ⟨?_, fun k hk => by cases hk⟩
            simp only [Rd]
            have hln : l.toNat ≤ h.toNat := by omega
            have hhn : h.toNat ≤ n := by omega
            have hm1 : l.toNat * ei.size + (h.toNat - l.toNat) * ei.size = h.toNat * ei.size := by rw [← Nat.add_mul]; congr 1; omega
            have hm2 : h.toNat * ei.size ≤ n * ei.size := Nat.mul_le_mul_right _ hhn
            refine ⟨⟨by rw [List.length_take, List.length_drop, hlc.1]; omega, hlc.2.sub (fun t ht => List.mem_of_mem_drop (List.mem_of_mem_take ht))⟩, _, _, (vs.drop (l.toNat * ei.size)).take ((h.toNat - l.toNat) * ei.size), rfl, by omega, by omega, RdL.take _ (RdL.drop _ k3), fun hne => ?_⟩
            have hne2 : cs ≠ [] := fun he => hne (by rw [he]; simp)
            obtain ⟨a, rfl, hs, hc⟩ := k4 hne2
            have hlt : l.toNat < h.toNat := by
              rcases Nat.lt_or_ge l.toNat h.toNat with hh' | hh'
              · exact hh'
              · exact absurd (by rw [Nat.sub_eq_zero_of_le hh', Nat.zero_mul, List.take_zero]) hne
            refine ⟨a.add (l.toNat * ei.size), by rw [if_neg (by omega)]; rfl, by rw [add_block]; exact hs, fun j y hj => ?_⟩
            rw [List.getElem?_take] at hj
            split at hj
            · rw [List.getElem?_drop] at hj
              rw [add_add]; exact hc _ y hj
            · cases hj
          · simp only [Ex] at hE
        · simp only [Ex] at hE
      · rename_i nm g _
        obtain ⟨vv, n, cs, B0, rfl, hm, hE⟩ := getRow_ok hE
        split at hE
        · rename_i l h hl hh
          simp only [Ex] at hE
          obtain ⟨⟨b0, b1, b2⟩, rfl, rfl, _, _⟩ := hE
          have hv := own_eq hx hm
          subst hv
          obtain ⟨B, C, k1, k2, k3, k4, k5⟩ := slice_of_row (H.blk nm _ hm)
          refine ⟨rfl, _, by rw [k1]; exact run_sliceAt hu he (run_bounds (isSlice := true) hl hh h1 h2 h3 h4 b0 b1 b2 k2), ?_⟩
          simp only [AVok]
          refine ⟨⟨_, _, rfl, by omega, by omega⟩, _, hm, Nat.le_refl _, fun _ => ⟨by omega, _, _, rfl, by omega, by omega, fun h0 => ?_, fun h0 => ⟨n, ?_⟩⟩⟩
          · obtain ⟨b, rfl⟩ := k4 (by omega)
            exact ⟨b, n, C, k1, by rw [if_neg (by omega)]; simp [add_zero_off]⟩
          · rw [k1, h0, Nat.sub_zero]
            rcases Nat.eq_zero_or_pos C with hC | hC
            · rw [if_pos hC]
            · obtain ⟨b, rfl⟩ := k5 hC
              rw [if_neg (by omega)]; simp [add_zero_off]
        · simp only [Ex] at hE
      · simp only [Ex] at hE

/-! ### conversions -/
theorem bytes_vals {h : Heap} {tg : List Value} : ∀ {l : List Int} {vs : List Value} {G : List Nat}, OwL h tg (l.map (Tr.int .u8)) vs G → vs = l.map (Value.int .u8)
  | [], vs, G, H => by simp only [List.map_nil, OwL] at H; simp [H.1]
  | x :: l, vs, G, H => by
    simp only [List.map_cons, OwL] at H
    obtain ⟨y, us, F1, F2, rfl, q1, q2, _⟩ := H
    simp only [Ow] at q1
    rw [q1.1, bytes_vals q2]; rfl
theorem scal_ints (k : IntKind) (l : List Int) : scal (l.map (Tr.int k)) := by
  intro t ht
  obtain ⟨x, _, rfl⟩ := List.mem_map.1 ht
  rfl
theorem foldl_push : ∀ (l : List Int) (b : ByteArray), (l.foldl (fun r n => r.push (UInt8.ofNat n.toNat)) b) = ⟨(b.data.toList ++ (l.map (Tr.int .u8)).map byteTr).toArray⟩
  | [], b => by simp
  | x :: l, b => by
    rw [List.foldl_cons, foldl_push l]
    congr 2
    simp [ByteArray.push, byteTr]
theorem freeze_push (w : World) (cur : Array Value) (e : Nat) : (pushW w (.cells cur e (0, 0))).freeze ⟨w.heap.size, cur.size, none⟩ 1 = pushW w (.cells cur e (cur.size, cur.size + 1)) := by
  have : ((w.heap.push (Obj.cells cur e (0, 0))).modify w.heap.size fun
      | .cells c elem (lo, hi) => .cells c elem (if lo == hi then (cur.size, cur.size + 1) else (min lo cur.size, max hi (cur.size + 1)))
      | o => o) = w.heap.push (.cells cur e (cur.size, cur.size + 1)) := by
    apply Array.ext_getElem?
    intro i
    rw [Array.getElem?_modify, Array.getElem?_push, Array.getElem?_push]
    split
    · subst_vars; simp
    · rename_i h
      rw [if_neg (fun e => h e.symm), if_neg (fun e => h e.symm)]
  unfold World.freeze pushW
  simp only [Nat.one_ne_zero, if_false]
  exact congrArg (fun h => ({ w with heap := h } : World)) this
theorem run_toBytes {src dst e : Nat} (hs : P.underlying src = some .string) (hd : P.underlying dst = some (.slice e)) (he : P.underlying e = some (.int .u8)) (s : ByteArray) (w w1 : World) (hw1 : w1 = { w with drawn := w.drawn + 1 }) {cur : Array Value} (hcur : (s.data.map fun b => Value.int .u8 (b.toNat : Int)) ++ Array.replicate (grownCap w s.size 0 e - s.size) (Value.int .u8 0) = cur) {cap : Nat} (hcap : cap = grownCap w s.size 0 e) :
    (Go.convert src dst (.string s)).run P w = .ok (.slice (some ⟨w1.heap.size, 0, none⟩) s.size cap) (pushW w1 (.cells cur e (cur.size, cur.size + 1))) := by
  have h1 : (Go.convert src dst (.string s)).run P w = (Conv.stringToBytes e s).run P w := by
    simp [Go.convert, run_underlying hs, run_underlying hd, run_underlying he]
  rw [h1, ← freeze_push]
  have hsh : (pushW w1 (.cells cur e (0, 0))).shape? w1.heap.size = some (e, cur.size) := by
    unfold World.shape?; rw [push_at]
  subst hw1 hcap
  have hcap : ∀ q : Nat, (Question.appendCap s.size 0 e).cut q = s.size + q % (2 ^ 63 - s.size) := fun q => rfl
  simp only [Conv.stringToBytes, Sem.run_bind, run_choose, Question.forced, Bool.false_eq_true, if_false, Result.andThen_ok, newRow, run_newObj, Sem.run_pure, markStringish]
  have e1 : (Question.appendCap s.size 0 e).cut (w.tape w.drawn (Question.appendCap s.size 0 e)) = grownCap w s.size 0 e := rfl
  rw [e1, hcur]
  change Result.andThen (Result.andThen ((shape w.heap.size).run P (pushW { w with drawn := w.drawn + 1 } (.cells cur e (0, 0)))) _) _ = _
  rw [run_shape, Result.andThen_ok]
  have h2 : (pushW { w with drawn := w.drawn + 1 } (.cells cur e (0, 0))).shape? w.heap.size = some (e, cur.size) := hsh
  rw [h2]
  rfl
theorem conv_ok (hτ : TTok P τ) (H : HM c hd fp m w X) {src dst D : Nat} {x : AV} {xv : Value} (hx : AVok c hd m w.heap x xv) (hE : Ex P (AM.conv τ src dst x D) u m v m' A W) :
    ∃ vv w' hd' fp', (Go.convert src dst xv).run P w = .ok vv w' ∧ AVok c hd' m' w'.heap v vv ∧ HM c hd' fp' m' w' X ∧ Evo hd m w.heap hd' m' w'.heap := by
  unfold AM.conv at hE
  split at hE
  · rename_i sI dI hs hdst
    obtain ⟨ds, hus, hds⟩ := (hτ src _ hs).undR
    obtain ⟨dd, hud, hdd⟩ := (hτ dst _ hdst).undR
    split at hE
    · rename_i k k' n hk
      simp only [Ex] at hE
      obtain ⟨rfl, rfl, _, _⟩ := hE
      rw [hk] at hdd
      have : dd = .int k := by cases dd <;> simp [kdOf] at hdd; rw [hdd]
      subst this
      simp only [AVok] at hx; subst hx
      exact ⟨_, w, hd, fp, by cases ds <;> simp [Go.convert, run_underlying hus, run_underlying hud, Conv.intToInt] <;> rfl, by simp only [AVok], H, Evo.refl _ _ _⟩
    · rename_i s hk
      simp only [Ex] at hE
      obtain ⟨rfl, rfl, _, _⟩ := hE
      rw [hk] at hdd
      have : dd = .string := by cases dd <;> simp [kdOf] at hdd; rfl
      subst this
      simp only [AVok] at hx; subst hx
      exact ⟨_, w, hd, fp, by cases ds <;> simp [Go.convert, run_underlying hus, run_underlying hud] <;> rfl, by simp only [AVok], H, Evo.refl _ _ _⟩
    · rename_i x' hk hne
      split at hE
      · rename_i e hks
        split at hE
        · rename_i he
          obtain ⟨n, cs, A1, hE, B, C, vs, rfl, k1, k2, k3, k4, k5, k6⟩ := rdRow_ok H hx hE
          simp only [Ex] at hE
          obtain ⟨⟨l, rfl⟩, rfl, rfl, _, _⟩ := hE
          rw [hk] at hdd
          have : dd = .string := by cases dd <;> simp [kdOf] at hdd; rfl
          subst this
          rw [hks] at hds
          have : ds = .slice e := by cases ds <;> simp [kdOf] at hds; rw [hds]
          subst this
          obtain ⟨de, hue, hde⟩ := (hτ e _ he).undR
          have : de = .int .u8 := by cases de <;> simp [kdOf] at hde; rw [hde]
          subst this
          have hvs : vs = l.map (Value.int .u8) := by
            rcases k6 with ⟨_, k6⟩ | ⟨nm, G, _, k6, _⟩
            · exact bytes_vals (h := w.heap) (tg := c.tags) (Ow_scal (scal_ints _ l) k6)
            · exact bytes_vals k6
          have hn : n = l.length := by have := k3.1; simp at this; omega
          refine ⟨.string ⟨((l.map (Tr.int .u8)).map byteTr).toArray⟩, w, hd, fp, ?_, by simp only [AVok], H, Evo.refl _ _ _⟩
          have e1 : (Go.convert src dst (.slice B n C)).run P w = (Conv.bytesToString (.slice B n C)).run P w := by
            simp [Go.convert, run_underlying hus, run_underlying hud, run_underlying hue]
          rw [e1]
          by_cases hne : l = []
          · subst hne
            simp at hn
            subst hn
            cases B with
            | none => rfl
            | some a => rfl
          · obtain ⟨a, rfl, hc, _⟩ := k5 (by simpa using hne)
            have hld : (loadCells a n).run P w = .ok (l.map (Value.int .u8)).toArray w := by
              rw [← hvs, hn]
              have : l.length = vs.length := by rw [hvs]; simp
              rw [this]
              exact run_loadCells_list w a vs hc
            rw [run_bytesToString w a n C l hld, foldl_push]
            rfl
        · simp only [Ex] at hE
      · simp only [Ex] at hE
    · rename_i e s hk
      split at hE
      · rename_i hks he
        simp only [Ex] at hE
        obtain ⟨hsz, hE⟩ := hE
        obtain ⟨g, B, V, hE, hg⟩ := mk_ok hE
        simp only [Ex] at hE
        obtain ⟨rfl, rfl, _, _⟩ := hE
        simp only [AVok] at hx; subst hx
        rw [hk] at hdd
        have : dd = .slice e := by cases dd <;> simp [kdOf] at hdd; rw [hdd]
        subst this
        obtain ⟨de, hue, hde⟩ := (hτ e _ he).undR
        have : de = .int .u8 := by cases de <;> simp [kdOf] at hde; rw [hde]
        subst this
        have hcap : s.size ≤ grownCap w s.size 0 e ∧ grownCap w s.size 0 e ≤ maxL := by
          have hun : grownCap w s.size 0 e = s.size + w.tape w.drawn (.appendCap s.size 0 e) % (2 ^ 63 - s.size) := rfl
          rw [hun]
          unfold maxL at hsz ⊢
          have : 0 < 2 ^ 63 - s.size := by omega
          have h2 := Nat.mod_lt (w.tape w.drawn (.appendCap s.size 0 e)) this
          omega
        obtain ⟨w1, hw1⟩ : ∃ w1 : World, w1 = { w with drawn := w.drawn + 1 } := ⟨_, rfl⟩
        obtain ⟨H1, E1⟩ := HM.world (w' := w1) H (by rw [hw1]) (by rw [hw1]) (by rw [hw1]) (by rw [hw1]; exact Nat.le_refl _) (fun k _ => by rw [hw1])
        have hcells : (((s.data.map fun b => Value.int .u8 (b.toNat : Int)) ++ Array.replicate (grownCap w s.size 0 e - s.size) (Value.int .u8 0)).toList.take s.size) = s.data.toList.map fun b => Value.int .u8 (b.toNat : Int) := by
          rw [Array.toList_append, Array.toList_map]
          exact List.take_left' (by simp)
        have hsc : OwL w1.heap c.tags (s.data.toList.map fun b => Tr.int .u8 (b.toNat : Int)) (s.data.toList.map fun b => Value.int .u8 (b.toNat : Int)) [] := by
          generalize s.data.toList = l
          induction l with
          | nil => simp [OwL]
          | cons b l ih => simp only [List.map_cons, OwL]; exact ⟨_, _, [], [], rfl, by simp [Ow], ih, rfl⟩
        have hasz : ((s.data.map fun b => Value.int .u8 (b.toNat : Int)) ++ Array.replicate (grownCap w s.size 0 e - s.size) (Value.int .u8 0)).size = grownCap w s.size 0 e := by
          rw [Array.size_append, Array.size_map, Array.size_replicate]
          have : s.data.size = s.size := rfl
          omega
        obtain ⟨H2, E2⟩ := HM.newRow (F := []) (by simpa using H1) D (g := g) (v := 0) (sz := 1) (n := s.size) (cap := grownCap w s.size 0 e) (e := e) (fr := (((s.data.map fun b => Value.int .u8 (b.toNat : Int)) ++ Array.replicate (grownCap w s.size 0 e - s.size) (Value.int .u8 0)).size, ((s.data.map fun b => Value.int .u8 (b.toNat : Int)) ++ Array.replicate (grownCap w s.size 0 e - s.size) (Value.int .u8 0)).size + 1)) (cs := s.data.toList.map fun b => Tr.int .u8 (b.toNat : Int))
          (cur := (s.data.map fun b => Value.int .u8 (b.toNat : Int)) ++ Array.replicate (grownCap w s.size 0 e - s.size) (Value.int .u8 0)) hg (.inr (Nat.le_refl _)) (by rw [hasz, Nat.mul_one]) hcap.1 hcap.2
          (fun t ht => by obtain ⟨b, _, rfl⟩ := List.mem_map.1 ht; rfl) (by simp) (by rw [Nat.mul_one, hcells]; exact hsc)
        rw [hks] at hds
        have : ds = .string := by cases ds <;> simp [kdOf] at hds; rfl
        subst this
        exact ⟨_, _, _, _, run_toBytes hus hud hue s w w1 hw1 rfl rfl, own_new rfl, H2, E1.trans E2⟩
      · simp only [Ex] at hE
    · simp only [Ex] at hE
  · simp only [Ex] at hE
end
end Go.AM
