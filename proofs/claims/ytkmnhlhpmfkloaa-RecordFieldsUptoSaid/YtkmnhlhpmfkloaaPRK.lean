/- The kinds of the arguments of this group's laws: what is known of them, and how they are read. -/
import Derived.Test.YtkmnhlhpmfkloaaPRx0
import Derived.Test.YtkmnhlhpmfkloaaOpen
import Derived.KernelRfl
namespace Go.Proofs.Ytkmnhlhpmfkloaa.PR
open Go.RowKit Go.Proofs.Ytkmnhlhpmfkloaa Go.Proofs.YtkmnhlhpmfkloaaW.PrintWords Go.Proofs.YtkmnhlhpmfkloaaW.PrintLast Go.Proofs.YtkmnhlhpmfkloaaW.PrintMore Go.Proofs.Ytkmnhlhpmfkloaa.Opn
set_option linter.unusedVariables false

def wfS49 (y : S49) : Prop := (Lit.int .i64 y.f0).wf = true ∧ y.f1.size ≤ 140737488351232
def bkS49 (y : S49) : Nat := (1 + ((y.f1.size + 1))) + 1

theorem o9 : Opens Try.prog 9 Kd.string (fun y => y.size ≤ 140737488351232) (fun y => (y.size + 1)) := string Try.underlying9 (by kernel_rfl)
theorem o3 : Opens Try.prog 3 (Kd.int .i64) (fun y => (Lit.int .i64 y).wf = true) (fun y => 1) := int Try.underlying3 (by kernel_rfl)
theorem o49 : Opens Try.prog 49 k49 wfS49 bkS49 := struct (fun x : S49 => (x.f0, x.f1)) (fun y => (⟨y.1, y.2⟩ : S49)) (fun _ => rfl) Try.underlying49 (by kernel_rfl) (fcons rfl o3 rfl (fone rfl o9))
theorem o42 : Opens Try.prog 42 (Kd.slice 49 k49) (fun y => (y.length * 24 ≤ 140737488351232 ∧ ∀ x ∈ y, wfS49 x)) (fun y => ((y.map (fun x => bkS49 x)).sum + 1)) := slice (B := 24) Try.underlying42 (by kernel_rfl) (by kernel_rfl) o49

end Go.Proofs.Ytkmnhlhpmfkloaa.PR
