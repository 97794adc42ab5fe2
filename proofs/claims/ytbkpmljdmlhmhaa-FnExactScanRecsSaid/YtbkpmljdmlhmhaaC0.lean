/- AN ABSTRACT MACHINE, 24: a law's row: what an argument reads as, out of what is known of it at the head; the law's call out of its contract. No condition of its own. -/
import Derived.Test.YtbkpmljdmlhmhaaA21
import Derived.Deep.Slices
import Derived.ChangeArms
import Derived.ChangeOld
import Derived.DataReads
import Derived.OpenShut
import Derived.WalkKit
import Derived.ProofKit
import Derived.ShutString
import Derived.Below
import Derived.Carry
import Derived.SizedLaws
set_option linter.unusedVariables false
set_option linter.unusedSimpArgs false
namespace Go.AM
open Go AM Go.RowKit Go.Deep Go.ChangeShapes Go.WideShapes
/-- what is of type t reads as some a: its cells are c a -/
def Opens {α : Type} (P : Program) (t : Nat) (c : α → List Tr) (bd : α → Prop) : Prop :=
  ∀ (H : Type) (enc : TypeId × Value → H) (w : World) (fuel : Nat) (cs : List Value) (x : DataW H × List MemPlace),
    DataW.trod enc P w 0 (fun _ => true) true fuel t cs = some x → ∃ a : α, RdL w.heap (fun k => k < w.heap.size) (c a) cs ∧ bd a
def bdI (lo hi : Int) (a : Int) : Prop := lo ≤ a ∧ a ≤ hi
def bdAny {α : Type} (_ : α) : Prop := True
def bdS (a : ByteArray) : Prop := a.size ≤ 9223372036854775807
def bdL {α : Type} (bd : α → Prop) (l : List α) : Prop := l.length ≤ 9223372036854775807 ∧ ∀ a, a ∈ l → bd a
theorem opens_i64 {P : Program} {t : TypeId} (hu : P.underlying t = some (.int .i64)) : Opens P t (fun a => [.int .i64 a]) (bdI (-9223372036854775808) 9223372036854775807) := by
  intro H enc w fuel cs x h
  obtain ⟨n, rfl, _, hw⟩ := DataW.trod_int hu h
  exact ⟨n, by simp [RdL, Rd], bounds_i64 hw⟩
theorem opens_u8 {P : Program} {t : TypeId} (hu : P.underlying t = some (.int .u8)) : Opens P t (fun a : UInt8 => [.int .u8 (a.toNat : Int)]) bdAny := by
  intro H enc w fuel cs x h
  obtain ⟨n, rfl, _, hw⟩ := DataW.trod_int hu h
  have hb := bounds_u8 hw
  refine ⟨UInt8.ofNat n.toNat, ?_, trivial⟩
  have : ((UInt8.ofNat n.toNat).toNat : Int) = n := by
    rw [UInt8.toNat_ofNat']; omega
  simp only [RdL, Rd, this]
  exact ⟨_, [], rfl, rfl, rfl⟩
theorem opens_bool {P : Program} {t : TypeId} (hu : P.underlying t = some .bool) : Opens P t (fun a => [.bool a]) bdAny := by
  intro H enc w fuel cs x h
  obtain ⟨n, rfl, _⟩ := DataW.trod_bool hu h
  exact ⟨n, by simp [RdL, Rd], trivial⟩
theorem opens_str {P : Program} {t : TypeId} (hu : P.underlying t = some .string) : Opens P t (fun a => [.str a]) bdS := by
  intro H enc w fuel cs x h
  obtain ⟨n, rfl, _, hs⟩ := DataW.trod_string hu h
  exact ⟨n, by simp [RdL, Rd], hs⟩
theorem RdL.flat {h : Heap} {S : Nat → Prop} {α : Type} {c : α → List Tr} {sz : Nat} (hsz : ∀ a, (c a).length = sz) {A : Addr} : ∀ {l : List α} {o : Nat}, (∀ i a, l[i]? = some a → ∃ vs, RdL h S (c a) vs ∧ ∀ j u, vs[j]? = some u → cellAt h (A.add (o + i * sz + j)) = some u) →
    ∃ vs, RdL h S (l.flatMap c) vs ∧ ∀ j u, vs[j]? = some u → cellAt h (A.add (o + j)) = some u
  | [], o, H => ⟨[], by simp [RdL], fun j u hj => by simp at hj⟩
  | a :: l, o, H => by
    obtain ⟨v1, r1, k1⟩ := H 0 a rfl
    obtain ⟨v2, r2, k2⟩ := RdL.flat hsz (A := A) (l := l) (o := o + sz) fun i b hb => by
      obtain ⟨vs, q1, q2⟩ := H (i + 1) b hb
      refine ⟨vs, q1, fun j u hj => ?_⟩
      have := q2 j u hj
      rw [Nat.succ_mul] at this
      rw [show o + sz + i * sz + j = o + (i * sz + sz) + j by omega]; exact this
    refine ⟨v1 ++ v2, by rw [List.flatMap_cons]; exact RdL.append r1 r2, fun j u hj => ?_⟩
    have hl : v1.length = sz := by rw [RdL.length r1, hsz]
    rw [List.getElem?_append] at hj
    split at hj
    · have := k1 j u hj; simpa using this
    · have := k2 _ u hj
      rw [show o + j = o + sz + (j - v1.length) by omega]; exact this
theorem flat_len {α : Type} {c : α → List Tr} {sz : Nat} (hsz : ∀ a, (c a).length = sz) : ∀ l : List α, (l.flatMap c).length = l.length * sz
  | [] => by simp
  | a :: l => by rw [List.flatMap_cons, List.length_append, hsz, flat_len hsz l, List.length_cons, Nat.succ_mul]; omega
theorem opens_slice {α : Type} {P : Program} {t e : TypeId} {c : α → List Tr} {bd : α → Prop} {sz : Nat} (hu : P.underlying t = some (.slice e)) (hc : P.cellsOf e = sz) (hsz : ∀ a, (c a).length = sz) (h0 : 0 < sz) (h1 : ∀ a, cells1 (c a)) (ho : Opens P e c bd) :
    Opens P t (fun l : List α => [.row sz l.length (l.flatMap c)]) (bdL bd) := by
  intro H enc w fuel cs x h
  rcases open_slice hu h with ⟨rfl, _⟩ | ⟨a, len, cap, m, n, D, Pl, rfl, hb, hl, hm, hmm, hx, hel⟩
  · exact ⟨[], by simp [RdL, Rd, cells1, maxL]; exact ⟨none, 0, ⟨rfl, rfl⟩, by omega⟩, by simp [bdL]⟩
  · have hlm : len ≤ m := by rw [hmm]; simpa using hl
    have hall : ∀ i, i < len → ∃ y : α, bd y ∧ ∃ vs, RdL w.heap (fun k => k < w.heap.size) (c y) vs ∧ ∀ j u, vs[j]? = some u → cellAt w.heap (a.add (i * sz + j)) = some u := by
      intro i hi
      obtain ⟨cs', hcs, ht⟩ := hel i (by omega)
      obtain ⟨y, hy, hbd⟩ := ho _ _ _ _ _ _ ht
      rw [hc] at hcs
      obtain ⟨_, hlen, hcell⟩ := World.cells?_some hcs
      refine ⟨y, hbd, cs', hy, fun j u hj => ?_⟩
      have hj2 := (List.getElem?_eq_some_iff.1 hj).1
      have h1 := hcell j (by omega)
      rw [Go.Deep.add_add, hj] at h1
      exact h1
    have hlen : (List.ofFn fun i : Fin len => Classical.choose (hall i.1 i.2)).length = len := by simp
    have hget : ∀ j p, (List.ofFn fun i : Fin len => Classical.choose (hall i.1 i.2))[j]? = some p → ∃ hj : j < len, p = Classical.choose (hall j hj) := by
      intro j p hp
      have hj : j < len := by have := (List.getElem?_eq_some_iff.1 hp).1; rw [hlen] at this; exact this
      refine ⟨hj, ?_⟩
      rw [List.getElem?_ofFn] at hp
      simp [hj] at hp
      exact hp.symm
    simp only [maxLen] at hm
    generalize hL : (List.ofFn fun i : Fin len => Classical.choose (hall i.1 i.2)) = L at hlen hget
    obtain ⟨vs, q1, q2⟩ := RdL.flat (h := w.heap) (S := fun k => k < w.heap.size) hsz (A := a) (l := L) (o := 0) fun i b hb => by
      obtain ⟨hj, rfl⟩ := hget i b hb
      obtain ⟨_, vs, e1, e2⟩ := Classical.choose_spec (hall i hj)
      exact ⟨vs, e1, fun j u hj => by rw [Nat.zero_add]; exact e2 j u hj⟩
    refine ⟨L, ?_, by rw [hlen]; omega, fun p hp => ?_⟩
    · simp only [RdL, Rd]
      have hfl := flat_len hsz L
      refine ⟨_, [], rfl, ⟨⟨hfl, fun t ht => ?_⟩, some a, cap, vs, by rw [hlen], by rw [hlen]; exact hl, hm, q1, fun hne => ⟨a, rfl, ?_, fun j u hj => by have := q2 j u hj; rwa [Nat.zero_add] at this⟩⟩, rfl⟩
      · obtain ⟨b, hb, ht⟩ := List.mem_flatMap.1 ht
        exact h1 b t ht
      · have hp : 0 < vs.length := by rw [RdL.length q1]; exact List.length_pos_iff.2 hne
        have := q2 0 _ (List.getElem?_eq_getElem hp)
        unfold cellAt at this
        split at this
        · rename_i hb
          have := lt_of_get hb
          rwa [add_block] at this
        · cases this
    · obtain ⟨j, hj2, hj⟩ := List.getElem_of_mem hp
      obtain ⟨hj3, rfl⟩ := hget j p (by rw [← hj]; exact List.getElem?_eq_getElem hj2)
      exact (Classical.choose_spec (hall j hj3)).1
/-- the fields of a struct from a place on -/
def OpensF {α : Type} (P : Program) (fs : List Field) (off N : Nat) (c : α → List Tr) (bd : α → Prop) : Prop :=
  ∀ (H : Type) (enc : TypeId × Value → H) (w : World) (fuel : Nat) (cs : List Value), cs.length = N → (∀ f, f ∈ fs → ∃ x, DataW.trod enc P w 0 (fun _ => true) true fuel f.type ((cs.drop f.offset).take (P.cellsOf f.type)) = some x) →
    ∃ a : α, RdL w.heap (fun k => k < w.heap.size) (c a) (cs.drop off) ∧ bd a
theorem opensF_nil {P : Program} {N : Nat} : OpensF P [] N N (fun _ : Unit => []) (fun _ => True) := by
  intro H enc w fuel cs hl _
  exact ⟨(), by rw [List.drop_eq_nil_of_le (by omega)]; simp [RdL], trivial⟩
theorem opensF_cons {α β : Type} {P : Program} {f : Field} {fs : List Field} {off N sz : Nat} {c : α → List Tr} {bd : α → Prop} {c2 : β → List Tr} {bd2 : β → Prop} (hf : f.offset = off) (hz : P.cellsOf f.type = sz) (h1 : Opens P f.type c bd) (h2 : OpensF P fs (off + sz) N c2 bd2) :
    OpensF P (f :: fs) off N (fun p : α × β => c p.1 ++ c2 p.2) (fun p => bd p.1 ∧ bd2 p.2) := by
  intro H enc w fuel cs hl hall
  obtain ⟨x, hx⟩ := hall f (by simp)
  obtain ⟨a, ha, hba⟩ := h1 _ _ _ _ _ _ hx
  obtain ⟨b, hb, hbb⟩ := h2 H enc w fuel cs hl (fun g hg => hall g (by simp [hg]))
  refine ⟨(a, b), ?_, hba, hbb⟩
  have : cs.drop off = (cs.drop off).take sz ++ cs.drop (off + sz) := by rw [← List.drop_drop, List.take_append_drop]
  rw [this]
  rw [hf, hz] at ha
  exact RdL.append ha hb
theorem opens_struct {α : Type} {P : Program} {t : TypeId} {fs : Array Field} {N : Nat} {c : α → List Tr} {bd : α → Prop} (hu : P.underlying t = some (.struct fs)) (hN : P.cellsOf t = N) (h : OpensF P fs.toList 0 N c bd) : Opens P t c bd := by
  intro H enc w fuel cs x hx
  obtain ⟨xs, n, _, _, hlen, hxl, hf⟩ := DataW.trod_struct hu hx
  rw [hN] at hlen
  obtain ⟨a, h1, h2⟩ := h H enc w n cs hlen fun f hm => by
    obtain ⟨i, hi⟩ := List.mem_iff_getElem?.1 hm
    rw [Array.getElem?_toList] at hi
    have := hf i f hi
    have hlt : i < xs.length := by rw [hxl]; exact (Array.getElem?_eq_some_iff.1 hi).1
    rw [List.getElem?_eq_getElem hlt] at this
    exact ⟨_, this⟩
  exact ⟨a, by simpa using h1, h2⟩
/-- another form of the same -/
theorem Opens.as {α β : Type} {P : Program} {t : TypeId} {c : α → List Tr} {bd : α → Prop} (h : Opens P t c bd) (f : α → β) {c2 : β → List Tr} {bd2 : β → Prop} (hc : ∀ a, c2 (f a) = c a) (hb : ∀ a, bd a → bd2 (f a)) : Opens P t c2 bd2 := by
  intro H enc w fuel cs x hx
  obtain ⟨a, h1, h2⟩ := h _ _ _ _ _ _ hx
  exact ⟨f a, by rw [hc]; exact h1, hb a h2⟩
/-! ### arguments -/
theorem PAokL_ro {h : Heap} {S : Nat → Prop} : ∀ {ts : List Tr} {vs : List Value}, cells1 ts → RdL h S ts vs → ∃ T, PAokL h S (ts.map PA.ro) vs [] T ∧ (∀ v, v ∈ vs → v.oneCell' = true) ∧ ∀ t, t ∈ T → t.oneCell' = true
  | [], vs, h1, H => by simp only [RdL] at H; subst H; exact ⟨[], by simp [PAokL], by simp, by simp⟩
  | t :: ts, vs, h1, H => by
    simp only [RdL] at H
    obtain ⟨v, us, rfl, r1, r2⟩ := H
    obtain ⟨T, q1, q2, q3⟩ := PAokL_ro (fun x hx => h1 x (by simp [hx])) r2
    have hv := Rd.one (h1 t (by simp)) r1
    refine ⟨(if t.isRow then [v] else []) ++ T, ?_, fun x hx => ?_, fun x hx => ?_⟩
    · simp only [List.map_cons, PAokL]
      exact ⟨v, us, [], [], _, T, rfl, by unfold PAok; exact ⟨r1, rfl, rfl⟩, q1, rfl, rfl⟩
    · rcases List.mem_cons.1 hx with rfl | hx
      · exact hv
      · exact q2 x hx
    · rcases List.mem_append.1 hx with hx | hx
      · split at hx
        · rw [List.mem_singleton.1 hx]; exact hv
        · cases hx
      · exact q3 x hx
/-- one argument: its cells as they are -/
def Arg (h : Heap) (p : PA) (v : Value) : Prop := ∃ T, PAok h (fun k => k < h.size) p v [] T ∧ ∀ t, t ∈ T → t.oneCell' = true
theorem arg_one {h : Heap} {t : Tr} {v : Value} (h1 : t.cellB = true) (H : RdL h (fun k => k < h.size) [t] [v]) : Arg h (.ro t) v := by
  simp only [RdL] at H
  obtain ⟨v', us, e, r, rfl⟩ := H
  simp only [List.cons.injEq, and_true] at e
  subst e
  refine ⟨_, by unfold PAok; exact ⟨r, rfl, rfl⟩, fun x hx => ?_⟩
  split at hx
  · rw [List.mem_singleton.1 hx]; exact Rd.one h1 r
  · cases hx
theorem arg_agg {h : Heap} {ts : List Tr} {vs : Array Value} (h1 : cells1 ts) (H : RdL h (fun k => k < h.size) ts vs.toList) : Arg h (.agg (ts.map PA.ro)) (.agg vs) := by
  obtain ⟨T, q1, q2, q3⟩ := PAokL_ro h1 H
  exact ⟨T, by simp only [PAok]; exact ⟨vs, rfl, q1, q2⟩, q3⟩
def ArgL (h : Heap) (ps : List PA) (vs : List Value) : Prop := ∃ T, PAokL h (fun k => k < h.size) ps vs [] T ∧ ∀ t, t ∈ T → t.oneCell' = true
theorem argL_nil {h : Heap} : ArgL h [] [] := ⟨[], by simp [PAokL], by simp⟩
theorem argL_cons {h : Heap} {p : PA} {ps : List PA} {v : Value} {vs : List Value} (h1 : Arg h p v) (h2 : ArgL h ps vs) : ArgL h (p :: ps) (v :: vs) := by
  obtain ⟨T1, a1, b1⟩ := h1
  obtain ⟨T2, a2, b2⟩ := h2
  refine ⟨T1 ++ T2, by simp only [PAokL]; exact ⟨v, vs, [], [], T1, T2, rfl, a1, a2, rfl, rfl⟩, fun t ht => ?_⟩
  rcases List.mem_append.1 ht with h | h
  · exact b1 t h
  · exact b2 t h
/-- A LAW: its call out of its contract -/
theorem law_calls {P : Program} {f : Nat} {fn : Func} {body : Code} {pas : List PA} {pbs : List PB} (hf : P.funcs[f]? = some fn) (hname : (fn.name == "runtime.NumGoroutine") = false) (hb : fn.body = some body) (hA : AGood P f pas (.bool true) pbs) {w : World} {vals : List Value} (hp : ArgL w.heap pas vals) :
    Calls P f vals.toArray w fun e w' => e = .returned (.bool true) ∧ Below w.heap.size w w' := by
  obtain ⟨T, h1, h2⟩ := hp
  have h := hA.2.2 w vals [] T (by simpa using h1) List.nodup_nil h2
  have henter : (callFunc f vals.toArray).run P w = .ok (.enter f vals.toArray) w := by
    have hname' : ¬ fn.name = "runtime.NumGoroutine" := by simpa using hname
    simp [callFunc, hf, hname', hb]
  unfold CallF at h
  rw [henter] at h
  simp only at h
  refine h.mono ?_
  rintro e w' ⟨v, F1, F2, rfl, hv, _, _, hfr⟩
  simp only [Ow] at hv
  rw [hv.1]
  exact ⟨rfl, hfr.os, hfr.tape, hfr.output, hfr.size, fun k hk => hfr.same k hk (by simp)⟩
end Go.AM
