/- The types of this seat's program, as the abstract machine asks of them. Printed by a program of this session (wip/am/tytab.py). -/
import Derived.Test.YtmckbfmadgfddaaChecked
import Derived.Test.YtmckbfmadgfddaaMC
namespace Go.Proofs.Ytmckbfmadgfddaa.Ty
open Go Go.AM
@[simp] def t2 : TI := ⟨(.int .i64), 1, 8, [.sc (.int .i64 0)]⟩
@[simp] def t3 : TI := ⟨(.int .i64), 1, 8, [.sc (.int .i64 0)]⟩
@[simp] def t4 : TI := ⟨.bool, 1, 1, [.sc (.bool false)]⟩
@[simp] def t5 : TI := ⟨(.int .u8), 1, 1, [.sc (.int .u8 0)]⟩
@[simp] def t7 : TI := ⟨(.struct [(0, 2), (1, 3), (2, 4), (3, 6)]), 4, 24, [.sc (.int .i64 0), .sc (.int .i64 0), .sc (.bool false), .sc (.int .u8 0)]⟩
@[simp] def t9 : TI := ⟨.str, 1, 16, [.sc (.str ⟨#[]⟩)]⟩
@[simp] def t12 : TI := ⟨(.int .u64), 1, 8, [.sc (.int .u64 0)]⟩
@[simp] def t13 : TI := ⟨(.struct [(0, 9), (1, 12)]), 2, 24, [.sc (.str ⟨#[]⟩), .sc (.int .u64 0)]⟩
@[simp] def t15 : TI := ⟨(.ptr 54), 1, 8, [.pt 54]⟩
@[simp] def t16 : TI := ⟨(.ptr 57), 1, 8, [.pt 57]⟩
@[simp] def t17 : TI := ⟨(.ptr 67), 1, 8, [.pt 67]⟩
@[simp] def t18 : TI := ⟨(.struct [(0, 17)]), 1, 8, [.pt 67]⟩
@[simp] def t21 : TI := ⟨(.int .i32), 1, 4, [.sc (.int .i32 0)]⟩
@[simp] def t22 : TI := ⟨(.slice 5), 1, 24, [.sl 1]⟩
@[simp] def t23 : TI := ⟨(.struct [(0, 3), (1, 4), (2, 22)]), 3, 40, [.sc (.int .i64 0), .sc (.bool false), .sl 1]⟩
@[simp] def t24 : TI := ⟨(.struct [(0, 3), (1, 4), (2, 22)]), 3, 40, [.sc (.int .i64 0), .sc (.bool false), .sl 1]⟩
@[simp] def t25 : TI := ⟨(.struct [(0, 3), (1, 3), (2, 3), (3, 22)]), 4, 48, [.sc (.int .i64 0), .sc (.int .i64 0), .sc (.int .i64 0), .sl 1]⟩
@[simp] def t26 : TI := ⟨(.struct [(0, 3), (1, 3), (2, 3), (3, 22)]), 4, 48, [.sc (.int .i64 0), .sc (.int .i64 0), .sc (.int .i64 0), .sl 1]⟩
@[simp] def t29 : TI := ⟨(.struct [(0, 3), (1, 4), (2, 22)]), 3, 40, [.sc (.int .i64 0), .sc (.bool false), .sl 1]⟩
@[simp] def t33 : TI := ⟨(.struct [(0, 3), (1, 3), (2, 3), (3, 22)]), 4, 48, [.sc (.int .i64 0), .sc (.int .i64 0), .sc (.int .i64 0), .sl 1]⟩
@[simp] def t53 : TI := ⟨(.struct [(0, 17), (1, 17), (2, 17), (3, 9)]), 4, 40, [.pt 67, .pt 67, .pt 67, .sc (.str ⟨#[]⟩)]⟩
@[simp] def t55 : TI := ⟨(.array 0 16), 0, 0, []⟩
@[simp] def t56 : TI := ⟨(.struct [(0, 55)]), 0, 0, []⟩
@[simp] def t59 : TI := ⟨(.int .u32), 1, 4, [.sc (.int .u32 0)]⟩
@[simp] def t63 : TI := ⟨(.ptr 5), 1, 8, [.pt 5]⟩
def tab : TT := (.node 18 (.node 9 (.node 4 (.node 2 (.leaf 2 t2) (.node 3 (.leaf 3 t3) (.leaf 4 t4))) (.node 5 (.leaf 5 t5) (.node 7 (.leaf 7 t7) (.leaf 9 t9)))) (.node 15 (.node 12 (.leaf 12 t12) (.node 13 (.leaf 13 t13) (.leaf 15 t15))) (.node 16 (.leaf 16 t16) (.node 17 (.leaf 17 t17) (.leaf 18 t18))))) (.node 26 (.node 23 (.node 21 (.leaf 21 t21) (.node 22 (.leaf 22 t22) (.leaf 23 t23))) (.node 24 (.leaf 24 t24) (.node 25 (.leaf 25 t25) (.leaf 26 t26)))) (.node 53 (.node 29 (.leaf 29 t29) (.node 33 (.leaf 33 t33) (.leaf 53 t53))) (.node 56 (.node 55 (.leaf 55 t55) (.leaf 56 t56)) (.node 59 (.leaf 59 t59) (.leaf 63 t63))))))
def τ : TTab := tab.get
theorem k2 : TI.Ok Try.prog 2 t2 := ⟨by kernel_rfl, by kernel_rfl, rfl, by decide⟩
theorem k3 : TI.Ok Try.prog 3 t3 := ⟨by kernel_rfl, by kernel_rfl, rfl, by decide⟩
theorem k4 : TI.Ok Try.prog 4 t4 := ⟨by kernel_rfl, by kernel_rfl, rfl, by decide⟩
theorem k5 : TI.Ok Try.prog 5 t5 := ⟨by kernel_rfl, by kernel_rfl, rfl, by decide⟩
theorem k7 : TI.Ok Try.prog 7 t7 := ⟨by kernel_rfl, by kernel_rfl, rfl, by decide⟩
theorem k9 : TI.Ok Try.prog 9 t9 := ⟨by kernel_rfl, by kernel_rfl, rfl, by decide⟩
theorem k12 : TI.Ok Try.prog 12 t12 := ⟨by kernel_rfl, by kernel_rfl, rfl, by decide⟩
theorem k13 : TI.Ok Try.prog 13 t13 := ⟨by kernel_rfl, by kernel_rfl, rfl, by decide⟩
theorem k15 : TI.Ok Try.prog 15 t15 := ⟨by kernel_rfl, by kernel_rfl, rfl, by decide⟩
theorem k16 : TI.Ok Try.prog 16 t16 := ⟨by kernel_rfl, by kernel_rfl, rfl, by decide⟩
theorem k17 : TI.Ok Try.prog 17 t17 := ⟨by kernel_rfl, by kernel_rfl, rfl, by decide⟩
theorem k18 : TI.Ok Try.prog 18 t18 := ⟨by kernel_rfl, by kernel_rfl, rfl, by decide⟩
theorem k21 : TI.Ok Try.prog 21 t21 := ⟨by kernel_rfl, by kernel_rfl, rfl, by decide⟩
theorem k22 : TI.Ok Try.prog 22 t22 := ⟨by kernel_rfl, by kernel_rfl, rfl, by decide⟩
theorem k23 : TI.Ok Try.prog 23 t23 := ⟨by kernel_rfl, by kernel_rfl, rfl, by decide⟩
theorem k24 : TI.Ok Try.prog 24 t24 := ⟨by kernel_rfl, by kernel_rfl, rfl, by decide⟩
theorem k25 : TI.Ok Try.prog 25 t25 := ⟨by kernel_rfl, by kernel_rfl, rfl, by decide⟩
theorem k26 : TI.Ok Try.prog 26 t26 := ⟨by kernel_rfl, by kernel_rfl, rfl, by decide⟩
theorem k29 : TI.Ok Try.prog 29 t29 := ⟨by kernel_rfl, by kernel_rfl, rfl, by decide⟩
theorem k33 : TI.Ok Try.prog 33 t33 := ⟨by kernel_rfl, by kernel_rfl, rfl, by decide⟩
theorem k53 : TI.Ok Try.prog 53 t53 := ⟨by kernel_rfl, by kernel_rfl, rfl, by decide⟩
theorem k55 : TI.Ok Try.prog 55 t55 := ⟨by kernel_rfl, by kernel_rfl, rfl, by decide⟩
theorem k56 : TI.Ok Try.prog 56 t56 := ⟨by kernel_rfl, by kernel_rfl, rfl, by decide⟩
theorem k59 : TI.Ok Try.prog 59 t59 := ⟨by kernel_rfl, by kernel_rfl, rfl, by decide⟩
theorem k63 : TI.Ok Try.prog 63 t63 := ⟨by kernel_rfl, by kernel_rfl, rfl, by decide⟩
theorem ok : TTok Try.prog τ := TT.ok tab ⟨⟨⟨⟨k2, ⟨k3, k4⟩⟩, ⟨k5, ⟨k7, k9⟩⟩⟩, ⟨⟨k12, ⟨k13, k15⟩⟩, ⟨k16, ⟨k17, k18⟩⟩⟩⟩, ⟨⟨⟨k21, ⟨k22, k23⟩⟩, ⟨k24, ⟨k25, k26⟩⟩⟩, ⟨⟨k29, ⟨k33, k53⟩⟩, ⟨⟨k55, k56⟩, ⟨k59, k63⟩⟩⟩⟩⟩
end Go.Proofs.Ytmckbfmadgfddaa.Ty
