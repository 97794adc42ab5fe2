import Derived.Test.YtbkpmljdmlhmhaaU5
namespace Go.Proofs.Ytbkpmljdmlhmhaa
open Go Go.AM Ty
set_option linter.unusedVariables false
theorem opensBytes : Go.AM.Opens Try.prog 22 (fun l : List UInt8 => [.row 1 l.length (bT l)]) (bdL bdAny) :=
  (Go.AM.opens_slice (sz := 1) Try.underlying22 (by kernel_rfl) (fun _ => rfl) (by decide) (fun a => by simp [cells1, Tr.cellB]) (Go.AM.opens_u8 Try.underlying5)).as id (fun l => by simp only [id]; rw [fm_one (f := fun b : UInt8 => Tr.int .u8 (b.toNat : Int))]) (fun _ h => h)
theorem opensUp : Go.AM.Opens Try.prog 134 Upp.cells upB :=
  (opens_struct (N := 4) Try.underlying134 (by kernel_rfl) (opensF_cons (off := 0) (sz := 1) rfl (by kernel_rfl) (Go.AM.opens_str Try.underlying9) (opensF_cons (off := 1) (sz := 1) rfl (by kernel_rfl) (Go.AM.opens_i64 Try.underlying3) (opensF_cons (off := 2) (sz := 1) rfl (by kernel_rfl) opensBytes (opensF_cons (off := 3) (sz := 1) rfl (by kernel_rfl) (Go.AM.opens_bool Try.underlying4) opensF_nil))))).as (fun p => (⟨p.1, p.2.1, p.2.2.1, p.2.2.2.1⟩ : Upp)) (fun _ => rfl) (fun p h => ⟨h.1, h.2.2.1.1⟩)
theorem opensUpS : Go.AM.Opens Try.prog 46 (fun l : List Upp => [.row 4 l.length (uT l)]) (bdL upB) :=
  Go.AM.opens_slice (sz := 4) Try.underlying46 (by kernel_rfl) up_sz (by decide) (fun a => by simp [cells1, Tr.cellB]) opensUp
theorem opens48 : Go.AM.Opens Try.prog 48 (fun s : St => [.row 1 s.a.length (sT s.a), .row 1 s.b.length (sT s.b), .int .i64 s.e, .int .i64 s.n, .row 4 s.u.length (uT s.u)]) (fun s => bdL bdS s.a ∧ bdL bdS s.b ∧ bdL upB s.u) :=
  (opens_struct (N := 5) Try.underlying48 (by kernel_rfl) (opensF_cons (off := 0) (sz := 2) rfl (by kernel_rfl) opens39 (opensF_cons (off := 2) (sz := 1) rfl (by kernel_rfl) (Go.AM.opens_i64 Try.underlying3) (opensF_cons (off := 3) (sz := 1) rfl (by kernel_rfl) (Go.AM.opens_i64 Try.underlying3) (opensF_cons (off := 4) (sz := 1) rfl (by kernel_rfl) opensUpS opensF_nil))))).as (fun p => (⟨p.1.1, p.1.2.1, p.2.1, p.2.2.1, p.2.2.2.1⟩ : St)) (fun _ => rfl) (fun p h => ⟨h.1.1, h.1.2.1, h.2.2.2.1⟩)
theorem opens48_1 (s : St) : cells1 [Tr.row 1 s.a.length (sT s.a), .row 1 s.b.length (sT s.b), .int .i64 s.e, .int .i64 s.n, .row 4 s.u.length (uT s.u)] := by simp [cells1, Tr.cellB]
end Go.Proofs.Ytbkpmljdmlhmhaa
