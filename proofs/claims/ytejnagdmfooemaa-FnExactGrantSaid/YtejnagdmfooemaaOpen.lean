/- What an argument reads as: an argument that reads as data is of one of the print's kinds. Of whatever program. -/
import Derived.Test.YtejnagdmfooemaaWWords
import Derived.Deep.Slices
import Derived.ChangeArms
import Derived.ChangeOld
import Derived.DataReads
import Derived.OpenShut
namespace Go.Proofs.YtejnagdmfooemaaW.PrintOpen
open Go.RowKit Go.Proofs.YtejnagdmfooemaaW.PrintWords Go.Deep Go.ChangeShapes Go.WideShapes

def Opens {α : Type} (P : Program) (κ : Kd α) (t : TypeId) (bd : α → Prop) : Prop :=
  ∀ (H : Type) (enc : TypeId × Value → H) (w : World) (fuel : Nat) (cs : List Value) (x : DataW H × List MemPlace),
    DataW.trod enc P w 0 (fun _ => true) true fuel t cs = some x → ∃ a : α, κ.K w a cs ∧ bd a

def bdI64 (a : Int) : Prop := -9223372036854775808 ≤ a ∧ a ≤ 9223372036854775807
def bdU8 (a : Int) : Prop := 0 ≤ a ∧ a ≤ 255
def bdBool (_ : Bool) : Prop := True
def bdStr (a : ByteArray) : Prop := a.size ≤ 9223372036854775807
def bdList {α : Type} (bd : α → Prop) (l : List α) : Prop := l.length ≤ 9223372036854775807 ∧ ∀ a ∈ l, bd a

theorem opens_i64 {P : Program} {t : TypeId} (hu : P.underlying t = some (.int .i64)) : Opens P (Kd.int .i64) t bdI64 := by
  intro H enc w fuel cs x h
  obtain ⟨n, rfl, _, hw⟩ := DataW.trod_int hu h
  exact ⟨n, rfl, bounds_i64 hw⟩
theorem opens_u8 {P : Program} {t : TypeId} (hu : P.underlying t = some (.int .u8)) : Opens P (Kd.int .u8) t bdU8 := by
  intro H enc w fuel cs x h
  obtain ⟨n, rfl, _, hw⟩ := DataW.trod_int hu h
  exact ⟨n, rfl, bounds_u8 hw⟩
theorem opens_bool {P : Program} {t : TypeId} (hu : P.underlying t = some .bool) : Opens P Kd.bool t bdBool := by
  intro H enc w fuel cs x h
  obtain ⟨n, rfl, _⟩ := DataW.trod_bool hu h
  exact ⟨n, rfl, trivial⟩
theorem opens_str {P : Program} {t : TypeId} (hu : P.underlying t = some .string) : Opens P Kd.string t bdStr := by
  intro H enc w fuel cs x h
  obtain ⟨n, rfl, _, hs⟩ := DataW.trod_string hu h
  exact ⟨n, rfl, hs⟩
theorem opens_slice {α : Type} {P : Program} {κ : Kd α} {t e : TypeId} {bd : α → Prop} (hu : P.underlying t = some (.slice e)) (hc : P.cellsOf e = κ.sz) (ho : Opens P κ e bd) :
    Opens P (Kd.slice e κ) t (bdList bd) := by
  intro H enc w fuel cs x h
  rcases open_slice hu h with ⟨rfl, _⟩ | ⟨a, len, cap, m, n, D, Pl, rfl, hb, hl, hm, hmm, hx, hel⟩
  · exact ⟨[], ⟨none, 0, rfl, Nat.zero_le _, Kd.C_nil κ w⟩, by simp [bdList]⟩
  · have hlm : len ≤ m := by rw [hmm]; simpa using hl
    have hall : ∀ i, i < len → ∃ y : α, ∃ c, c.length = κ.sz ∧ κ.K w y c ∧ bd y ∧ ∀ j u, c[j]? = some u → w.cell? (a.add (i * κ.sz + j)) = some u := by
      intro i hi
      obtain ⟨c, hcs, ht⟩ := hel i (by omega)
      obtain ⟨y, hy, hbd⟩ := ho _ _ _ _ _ _ ht
      rw [hc] at hcs
      obtain ⟨_, hlen, hcell⟩ := World.cells?_some hcs
      refine ⟨y, c, hlen, hy, hbd, fun j u hj => ?_⟩
      have hj2 := (List.getElem?_eq_some_iff.1 hj).1
      have h1 := hcell j (by omega)
      rw [Go.Deep.add_add, hj] at h1
      exact h1
    have hlen : (List.ofFn fun i : Fin len => Classical.choose (hall i.1 i.2)).length = len := by simp
    have hget : ∀ j p, (List.ofFn fun i : Fin len => Classical.choose (hall i.1 i.2))[j]? = some p → ∃ hj : j < len, p = Classical.choose (hall j hj) := by
      intro j p hp
      have hj : j < len := by have := (List.getElem?_eq_some_iff.1 hp).1; rw [hlen] at this; exact this
      refine ⟨hj, ?_⟩
      rw [List.getElem?_ofFn] at hp
      simp [hj] at hp
      exact hp.symm
    simp only [maxLen] at hm
    refine ⟨List.ofFn fun i : Fin len => Classical.choose (hall i.1 i.2), ⟨some a, cap, by rw [hlen], by rw [hlen]; exact hl, ⟨rfl, by rw [hlen]; omega, fun _ => ⟨a, rfl, fun j p hp => ?_⟩⟩⟩, by rw [hlen]; omega, fun p hp => ?_⟩
    · obtain ⟨hj, rfl⟩ := hget j p hp
      obtain ⟨c, h1, h2, _, h3⟩ := Classical.choose_spec (hall j hj)
      exact ⟨c, h1, h2, h3⟩
    · obtain ⟨j, hj2, hj⟩ := List.getElem_of_mem hp
      obtain ⟨hj3, rfl⟩ := hget j p (by rw [← hj]; exact List.getElem?_eq_getElem hj2)
      obtain ⟨c, _, _, h4, _⟩ := Classical.choose_spec (hall j hj3)
      exact h4
end Go.Proofs.YtejnagdmfooemaaW.PrintOpen
