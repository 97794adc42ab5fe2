import Derived.Test.YtbkpmljdmlhmhaaOQ
namespace Go.Proofs.Ytbkpmljdmlhmhaa
open Go Go.AM Ty
set_option linter.unusedVariables false
theorem opensRec : Go.AM.Opens Try.prog 110 Rc.cells rcB :=
  (opens_struct (N := 6) Try.underlying110 (by kernel_rfl) (opensF_cons (off := 0) (sz := 1) rfl (by kernel_rfl) (Go.AM.opens_i64 Try.underlying3) (opensF_cons (off := 1) (sz := 1) rfl (by kernel_rfl) (Go.AM.opens_i64 Try.underlying3) (opensF_cons (off := 2) (sz := 1) rfl (by kernel_rfl) (Go.AM.opens_i64 Try.underlying3) (opensF_cons (off := 3) (sz := 1) rfl (by kernel_rfl) (Go.AM.opens_str Try.underlying9) (opensF_cons (off := 4) (sz := 1) rfl (by kernel_rfl) (Go.AM.opens_i64 Try.underlying3) (opensF_cons (off := 5) (sz := 1) rfl (by kernel_rfl) opensBytes opensF_nil))))))).as (fun p => (⟨p.1, p.2.1, p.2.2.1, p.2.2.2.1, p.2.2.2.2.1, p.2.2.2.2.2.1⟩ : Rc)) (fun _ => rfl) (fun p h => ⟨h.2.2.2.1, h.2.2.2.2.2.1.1⟩)
theorem opens70 : Go.AM.Opens Try.prog 70 (fun l : List Rc => [.row 6 l.length (rT l)]) (bdL rcB) :=
  Go.AM.opens_slice (sz := 6) Try.underlying70 (by kernel_rfl) rc_sz (by decide) (fun a => by simp [cells1, Tr.cellB]) opensRec
end Go.Proofs.Ytbkpmljdmlhmhaa
