/- AN ABSTRACT MACHINE, 26: rows of strings, of bools, numbers; what a mark says. No condition of its own. -/
import Derived.Test.YtbkpmljdmlhmhaaB1
set_option linter.unusedVariables false
set_option linter.unusedSimpArgs false
namespace Go.AM
open Go AM
abbrev emp : ByteArray := ⟨#[]⟩
abbrev sT (l : List ByteArray) : List Tr := l.map Tr.str
abbrev oT (l : List Bool) : List Tr := l.map Tr.bool
abbrev nT (l : List Int) : List Tr := l.map (Tr.int .i64)
section
variable {α : Type} {f : α → Tr}
theorem fm_one : ∀ l : List α, l.flatMap (fun a => [f a]) = l.map f
  | [] => rfl
  | a :: l => by rw [List.flatMap_cons, fm_one l]; rfl
theorem mp_el {l : List α} {i : Int} (z : α) (h : 0 ≤ i ∧ i < (l.length : Int)) : el (l.map f) 1 i.toNat = [f (l.getD i.toNat z)] := by
  have := el_fl (c := fun a => [f a]) (sz := 1) (fun _ => rfl) (l := l) (i := i.toNat) (z := z) (by omega)
  rwa [fm_one] at this
theorem mp_up {l : List α} {i : Int} {x : α} (h : 0 ≤ i ∧ i < (l.length : Int)) : upEl (l.map f) 1 i.toNat [f x] = (l.set i.toNat x).map f := by
  have := upEl_fl (c := fun a => [f a]) (sz := 1) (fun _ => rfl) (l := l) (i := i.toNat) (by omega) x
  rwa [fm_one, fm_one] at this
theorem mp_cut (l : List α) (a n : Nat) : ((l.map f).drop (a * 1)).take (n * 1) = ((l.drop a).take n).map f := by simp
theorem mp_take (l : List α) (n : Nat) : (l.map f).take (n * 1) = (l.take n).map f := by simp
theorem mp_app (l m : List α) : l.map f ++ m.map f = (l ++ m).map f := by simp
theorem mp_snoc (l : List α) (x : α) : l.map f ++ [f x] = (l ++ [x]).map f := by simp
theorem mp_nil (l : List α) : [] ++ l.map f = l.map f := by simp
theorem mp_one (x : α) : [] ++ [f x] = [x].map f := by simp
theorem zeros_mp {s : CK} {z : α} (h : s.tr = f z) : ∀ n : Nat, zeros [s] n = (List.replicate n z).map f
  | 0 => rfl
  | n + 1 => by
    show s.tr :: zeros [s] n = _
    rw [h, zeros_mp h n, List.replicate_succ, List.map_cons]
end
theorem zeros_s (n : Nat) : zeros [.sc (.str ⟨#[]⟩)] n = sT (List.replicate n emp) := zeros_mp (f := Tr.str) rfl n
theorem zeros_o (n : Nat) : zeros [.sc (.bool false)] n = oT (List.replicate n false) := zeros_mp (f := Tr.bool) rfl n
theorem zeros_n (n : Nat) : zeros [.sc (.int .i64 0)] n = nT (List.replicate n 0) := zeros_mp (f := Tr.int .i64) rfl n
theorem zeros_b (n : Nat) : zeros [.sc (.int .u8 0)] n = bT (List.replicate n 0) := zeros_mp (f := fun b : UInt8 => Tr.int .u8 (b.toNat : Int)) (z := (0 : UInt8)) rfl n
theorem mp_scal {α : Type} {f : α → Tr} (h : ∀ a, (f a).isSc = true) (l : List α) : scal (l.map f) := fun t ht => by
  obtain ⟨a, _, rfl⟩ := List.mem_map.1 ht
  exact h a
theorem mp_plain {α : Type} {f : α → Tr} (h : ∀ a, (f a).plain) : ∀ l : List α, Tr.plainL (l.map f)
  | [] => trivial
  | a :: l => ⟨h a, mp_plain h l⟩
theorem sT_scal (l : List ByteArray) : scal (sT l) := mp_scal (fun _ => rfl) l
theorem oT_scal (l : List Bool) : scal (oT l) := mp_scal (fun _ => rfl) l
theorem nT_scal (l : List Int) : scal (nT l) := mp_scal (fun _ => rfl) l
theorem sT_plain (l : List ByteArray) : Tr.plainL (sT l) := mp_plain (fun _ => by simp only [Tr.plain]) l
theorem oT_plain (l : List Bool) : Tr.plainL (oT l) := mp_plain (fun _ => by simp only [Tr.plain]) l
theorem nT_plain (l : List Int) : Tr.plainL (nT l) := mp_plain (fun _ => by simp only [Tr.plain]) l
theorem set_step {α : Type} {l : List α} {z : α} {n i : Nat} (h : i < l.length) : ((l.take i) ++ List.replicate (n - i) z).set i (l.getD i z) = l.take (i + 1) ++ List.replicate (n - (i + 1)) z ∨ n ≤ i := by
  rcases Nat.lt_or_ge i n with hn | hn
  · left
    rw [List.set_append_right _ _ (by rw [List.length_take]; omega), List.length_take, Nat.min_eq_left (by omega), Nat.sub_self, show n - i = (n - (i + 1)) + 1 by omega, List.replicate_succ, List.set_cons_zero, take_succ_getD (z := z) h, List.append_assoc]
    rfl
  · exact .inr hn
/-- how much of a size is left -/
def szGo {α : Type} (f : Int → α → Int) (left : Int) : List α → Int
  | [] => left
  | a :: l => if f left a < 0 then -1 else szGo f (f left a) l
def szM {α : Type} (f : Int → α → Int) (left : Int) (l : List α) : Int := if left - (l.length : Int) < 0 then -1 else szGo f (left - (l.length : Int)) l
/-- it takes at least m off -/
def Takes {α : Type} (f : Int → α → Int) (m : α → Nat) : Prop := ∀ left a, 0 ≤ left → 0 ≤ f left a → f left a + (m a : Int) ≤ left
theorem szGo_takes {α : Type} {f : Int → α → Int} {m : α → Nat} (hf : Takes f m) : ∀ {l : List α} {left : Int}, 0 ≤ left → 0 ≤ szGo f left l → szGo f left l + ((l.map m).sum : Int) ≤ left
  | [], left, h0, h => by simp [szGo]
  | a :: l, left, h0, h => by
    unfold szGo at h ⊢
    split at h
    · omega
    · rename_i h1
      rw [if_neg h1]
      have h2 := hf left a h0 (by omega)
      have h3 := szGo_takes hf (l := l) (left := f left a) (by omega) h
      simp only [List.map_cons, List.sum_cons]
      omega
theorem szM_takes {α : Type} {f : Int → α → Int} {m : α → Nat} (hf : Takes f m) : Takes (fun left l => szM f left l) (fun l => l.length + (l.map m).sum) := by
  intro left l h0 h
  simp only [szM] at h ⊢
  split at h
  · omega
  · rename_i h1
    rw [if_neg h1]
    have := szGo_takes hf (l := l) (by omega) h
    omega
theorem sum_le_of_mem {α : Type} {m : α → Nat} : ∀ {l : List α} {a : α}, a ∈ l → m a ≤ (l.map m).sum
  | b :: l, a, h => by
    simp only [List.map_cons, List.sum_cons]
    rcases List.mem_cons.1 h with rfl | h
    · omega
    · have := sum_le_of_mem (m := m) h; omega
theorem szGo_le {α : Type} {f : Int → α → Int} (hf : ∀ left a, f left a ≤ left) : ∀ {l : List α} {left : Int}, -1 ≤ left → szGo f left l ≤ left
  | [], left, h => by simp [szGo]
  | a :: l, left, h => by
    unfold szGo
    split
    · exact h
    · exact Int.le_trans (szGo_le hf (by omega)) (hf left a)
theorem szM_le {α : Type} {f : Int → α → Int} (hf : ∀ left a, f left a ≤ left) {l : List α} {left : Int} (h : -1 ≤ left) : szM f left l ≤ left := by
  unfold szM
  split
  · exact h
  · have := szGo_le hf (l := l) (left := left - (l.length : Int)) (by omega); omega
theorem szGo_step {α : Type} {f : Int → α → Int} {l : List α} {i : Nat} {z : α} {left : Int} (h : i < l.length) : szGo f left (l.drop i) = if f left (l.getD i z) < 0 then -1 else szGo f (f left (l.getD i z)) (l.drop (i + 1)) := by
  rw [List.drop_eq_getElem_cons h, List.getD_eq_getElem?_getD, List.getElem?_eq_getElem h]
  rfl
def szS (left : Int) (s : ByteArray) : Int := left - s.size
def szB (left : Int) (l : List UInt8) : Int := if left - (l.length : Int) < 0 then -1 else left - (l.length : Int)
theorem szS_takes : Takes szS ByteArray.size := fun left a h0 h => by unfold szS; omega
theorem szB_takes : Takes szB List.length := fun left a h0 h => by
  unfold szB at h ⊢
  split at h
  · omega
  · rename_i h1; rw [if_neg h1]; omega
/-- the text of a mark: m, and the number -/
def digsM (k : Nat) (o : ByteArray) : ByteArray := if h : k = 0 then o else digsM (k / 10) (⟨#[ub (48 + ((k % 10 : Nat) : Int))]⟩ ++ o)
  termination_by k
  decreasing_by omega
def textM (k : Int) : ByteArray := if k ≤ 0 then ⟨#[109, 48]⟩ else ⟨#[109]⟩ ++ digsM k.toNat emp
/-- strings that are marked -/
def markS (k : Int) (n : Nat) : List ByteArray := (List.range n).map fun (i : Nat) => textM (k + (i : Int))
@[simp] theorem markS_len (k : Int) (n : Nat) : (markS k n).length = n := by simp [markS]
theorem markS_succ (k : Int) (n : Nat) : markS k (n + 1) = markS k n ++ [textM (k + (n : Int))] := by
  unfold markS; rw [List.range_succ, List.map_append]; rfl
theorem markS_get {k : Int} {n i : Nat} (h : i < n) : (markS k n).getD i emp = textM (k + (i : Int)) := by
  unfold markS; simp [List.getD_eq_getElem?_getD, h]
theorem markS_step {l : List ByteArray} {k : Int} {i : Nat} (h : i < l.length) : (markS k i ++ l.drop i).set i (textM (k + (i : Int))) = markS k (i + 1) ++ l.drop (i + 1) := by
  rw [List.set_append_right _ _ (by rw [markS_len]; exact Nat.le_refl _), markS_len, Nat.sub_self, List.drop_eq_getElem_cons h, List.set_cons_zero, markS_succ, List.append_assoc]
  rfl
/-- elements that are marked, each by mk from the number that it finds; it takes m of them -/
def mkAll {α : Type} (mk : Int → α → α) (m : α → Nat) (k : Int) : List α → List α
  | [] => []
  | a :: l => mk k a :: mkAll mk m (k + m a) l
def kAll {α : Type} (m : α → Nat) (k : Int) (l : List α) : Int := k + ((l.map m).sum : Nat)
section
variable {α : Type} {mk : Int → α → α} {m : α → Nat}
@[simp] theorem mkAll_len : ∀ (k : Int) (l : List α), (mkAll mk m k l).length = l.length
  | k, [] => rfl
  | k, a :: l => by simp [mkAll, mkAll_len (k + m a) l]
theorem mkAll_app : ∀ (k : Int) (l l' : List α), mkAll mk m k (l ++ l') = mkAll mk m k l ++ mkAll mk m (kAll m k l) l'
  | k, [], l' => by simp [mkAll, kAll]
  | k, a :: l, l' => by
    have e : kAll m (k + m a) l = kAll m k (a :: l) := by simp [kAll]; omega
    simp [mkAll, mkAll_app (k + m a) l l', e]
theorem kAll_le {k : Int} {l : List α} (i : Nat) : k ≤ kAll m k (l.take i) ∧ kAll m k (l.take i) ≤ kAll m k l := by
  have h : (l.map m).sum = ((l.take i).map m).sum + ((l.drop i).map m).sum := by
    rw [← List.sum_append_nat, ← List.map_append, List.take_append_drop]
  unfold kAll; omega
theorem kAll_succ {k : Int} {l : List α} {i : Nat} {z : α} (h : i < l.length) : kAll m k (l.take (i + 1)) = kAll m k (l.take i) + m (l.getD i z) := by
  rw [take_succ_getD (z := z) h]; simp [kAll]; omega
theorem mkAll_at {k : Int} {l : List α} {i : Nat} {z : α} (h : i < l.length) : (mkAll mk m k (l.take i) ++ l.drop i).getD i z = l.getD i z := by
  simp [List.getD_eq_getElem?_getD, List.getElem?_append, List.length_take, Nat.min_eq_left (Nat.le_of_lt h)]
theorem mkAll_step {k : Int} {l : List α} {i : Nat} {z : α} (h : i < l.length) : (mkAll mk m k (l.take i) ++ l.drop i).set i (mk (kAll m k (l.take i)) (l.getD i z)) = mkAll mk m k (l.take (i + 1)) ++ l.drop (i + 1) := by
  have e : (mkAll mk m k (l.take i)).length = i := by rw [mkAll_len, List.length_take]; omega
  rw [List.set_append_right _ _ (by omega), e, Nat.sub_self, List.drop_eq_getElem_cons h, List.set_cons_zero, take_succ_getD (z := z) h, mkAll_app, List.append_assoc]
  rfl
theorem mkAll_get {k : Int} {l : List α} {i : Nat} {z : α} (h : i < l.length) : (mkAll mk m k l).getD i z = mk (kAll m k (l.take i)) (l.getD i z) := by
  have e : l = l.take i ++ l.getD i z :: l.drop (i + 1) := by
    rw [List.getD_eq_getElem?_getD, List.getElem?_eq_getElem h, Option.getD_some, ← List.drop_eq_getElem_cons h, List.take_append_drop]
  have hl : (mkAll mk m k (l.take i)).length = i := by rw [mkAll_len, List.length_take]; omega
  conv => lhs; rw [e]
  rw [mkAll_app, List.getD_eq_getElem?_getD, List.getElem?_append_right (by omega), hl, Nat.sub_self]
  rfl
end
end Go.AM
