/- The kinds of the arguments of this group's laws: what is known of them, and how they are read. -/
import Derived.Test.YtekcpcipbccodaaPYx0
import Derived.Test.YtekcpcipbccodaaOpen
import Derived.KernelRfl
namespace Go.Proofs.Ytekcpcipbccodaa.PY
open Go.RowKit Go.Proofs.Ytekcpcipbccodaa Go.Proofs.YtekcpcipbccodaaW.PrintWords Go.Proofs.YtekcpcipbccodaaW.PrintLast Go.Proofs.YtekcpcipbccodaaW.PrintMore Go.Proofs.Ytekcpcipbccodaa.Opn
set_option linter.unusedVariables false

def wfS28 (y : S28) : Prop := (Lit.int .i64 y.f0).wf = true ∧ (Lit.int .i64 y.f1).wf = true ∧ (Lit.int .i64 y.f2).wf = true ∧ True
def bkS28 (y : S28) : Nat := (1 + (1 + (1 + (1)))) + 1

theorem o3 : Opens Try.prog 3 (Kd.int .i64) (fun y => (Lit.int .i64 y).wf = true) (fun y => 1) := int Try.underlying3 (by kernel_rfl)
theorem o4 : Opens Try.prog 4 Kd.bool (fun y => True) (fun y => 1) := bool Try.underlying4 (by kernel_rfl)
theorem o28 : Opens Try.prog 28 k28 wfS28 bkS28 := struct (fun x : S28 => (x.f0, x.f1, x.f2, x.f3)) (fun y => (⟨y.1, y.2.1, y.2.2.1, y.2.2.2⟩ : S28)) (fun _ => rfl) Try.underlying28 (by kernel_rfl) (fcons rfl o3 rfl (fcons rfl o3 rfl (fcons rfl o3 rfl (fone rfl o4))))
theorem o22 : Opens Try.prog 22 (Kd.slice 28 k28) (fun y => (y.length * 32 ≤ 140737488351232 ∧ ∀ x ∈ y, wfS28 x)) (fun y => ((y.map (fun x => bkS28 x)).sum + 1)) := slice (B := 32) Try.underlying22 (by kernel_rfl) (by kernel_rfl) o28

end Go.Proofs.Ytekcpcipbccodaa.PY
