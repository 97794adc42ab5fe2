import Derived.Test.YtbkpmljdmlhmhaaE4
namespace Go.Proofs.Ytbkpmljdmlhmhaa
open Go Go.AM Ty
set_option linter.unusedVariables false
theorem opens37 : Go.AM.Opens Try.prog 37 (fun l : List ByteArray => [.row 1 l.length (sT l)]) (bdL bdS) :=
  (Go.AM.opens_slice (sz := 1) Try.underlying37 (by kernel_rfl) (fun _ => rfl) (by decide) (fun a => by simp [cells1, Tr.cellB]) (Go.AM.opens_str Try.underlying9)).as id (fun l => by simp [fm_one]) (fun _ h => h)
theorem opens39 : Go.AM.Opens Try.prog 39 (fun p : List ByteArray × List ByteArray × Unit => [.row 1 p.1.length (sT p.1), .row 1 p.2.1.length (sT p.2.1)]) (fun p => bdL bdS p.1 ∧ bdL bdS p.2.1 ∧ True) :=
  (opens_struct (N := 2) Try.underlying39 (by kernel_rfl) (opensF_cons (off := 0) (sz := 1) rfl (by kernel_rfl) opens37 (opensF_cons (off := 1) (sz := 1) rfl (by kernel_rfl) opens37 opensF_nil))).as id (fun _ => rfl) (fun _ h => h)
theorem opens39_1 (p : List ByteArray × List ByteArray × Unit) : cells1 [Tr.row 1 p.1.length (sT p.1), .row 1 p.2.1.length (sT p.2.1)] := by simp [cells1, Tr.cellB]
theorem szSS_ok {l : List ByteArray} {left : Int} (h0 : 0 ≤ left) (h : 0 ≤ szM szS left l) : szM szS left l + l.length ≤ left ∧ ∀ s ∈ l, szM szS left l + (s.size : Int) ≤ left := by
  have := szM_takes szS_takes left l h0 h
  simp only at this
  refine ⟨by omega, fun s hs => ?_⟩
  have := sum_le_of_mem (m := ByteArray.size) hs
  omega
theorem szD_ok {a b : List ByteArray} {left : Int} (h0 : 0 ≤ left) (h : 0 ≤ szD left a b) : (a.length ≤ left ∧ ∀ s ∈ a, (s.size : Int) ≤ left) ∧ (b.length ≤ left ∧ ∀ s ∈ b, (s.size : Int) ≤ left) := by
  unfold szD at h
  split at h
  · omega
  · split at h
    · omega
    · rename_i h1 h2
      obtain ⟨p1, p2⟩ := szSS_ok h0 (by omega : 0 ≤ szM szS left a)
      obtain ⟨p3, p4⟩ := szSS_ok (by omega : 0 ≤ szM szS left a) (by omega : 0 ≤ szM szS (szM szS left a) b)
      exact ⟨⟨by omega, fun s hs => by have := p2 s hs; omega⟩, ⟨by omega, fun s hs => by have := p4 s hs; omega⟩⟩
end Go.Proofs.Ytbkpmljdmlhmhaa
