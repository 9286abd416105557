/- The kinds of the arguments of this group's laws: what is known of them, and how they are read. -/
import Derived.Test.YtehpkbkffaolaaaPMx0
import Derived.Test.YtehpkbkffaolaaaOpen
import Derived.KernelRfl
namespace Go.Proofs.Ytehpkbkffaolaaa.PM
open Go.RowKit Go.Proofs.Ytehpkbkffaolaaa Go.Proofs.YtehpkbkffaolaaaW.PrintWords Go.Proofs.YtehpkbkffaolaaaW.PrintLast Go.Proofs.YtehpkbkffaolaaaW.PrintMore Go.Proofs.Ytehpkbkffaolaaa.Opn
set_option linter.unusedVariables false

def wfS37 (y : S37) : Prop := (Lit.int .i64 y.f0).wf = true ∧ (Lit.int .i64 y.f1).wf = true ∧ (Lit.int .u8 y.f2).wf = true
def bkS37 (y : S37) : Nat := (1 + (1 + (1))) + 1

theorem o3 : Opens Try.prog 3 (Kd.int .i64) (fun y => (Lit.int .i64 y).wf = true) (fun y => 1) := int Try.underlying3 (by kernel_rfl)
theorem o5 : Opens Try.prog 5 (Kd.int .u8) (fun y => (Lit.int .u8 y).wf = true) (fun y => 1) := int Try.underlying5 (by kernel_rfl)
theorem o37 : Opens Try.prog 37 k37 wfS37 bkS37 := struct (fun x : S37 => (x.f0, x.f1, x.f2)) (fun y => (⟨y.1, y.2.1, y.2.2⟩ : S37)) (fun _ => rfl) Try.underlying37 (by kernel_rfl) (fcons rfl o3 rfl (fcons rfl o3 rfl (fone rfl o5)))
theorem o34 : Opens Try.prog 34 (Kd.slice 37 k37) (fun y => (y.length * 24 ≤ 140737488351232 ∧ ∀ x ∈ y, wfS37 x)) (fun y => ((y.map (fun x => bkS37 x)).sum + 1)) := slice (B := 24) Try.underlying34 (by kernel_rfl) (by kernel_rfl) o37

end Go.Proofs.Ytehpkbkffaolaaa.PM
