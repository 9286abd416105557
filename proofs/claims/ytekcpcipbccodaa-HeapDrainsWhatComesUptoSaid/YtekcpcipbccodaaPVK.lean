/- The kinds of the arguments of this group's laws: what is known of them, and how they are read. -/
import Derived.Test.YtekcpcipbccodaaPVx0
import Derived.Test.YtekcpcipbccodaaOpen
import Derived.KernelRfl
namespace Go.Proofs.Ytekcpcipbccodaa.PV
open Go.RowKit Go.Proofs.Ytekcpcipbccodaa Go.Proofs.YtekcpcipbccodaaW.PrintWords Go.Proofs.YtekcpcipbccodaaW.PrintLast Go.Proofs.YtekcpcipbccodaaW.PrintMore Go.Proofs.Ytekcpcipbccodaa.Opn
set_option linter.unusedVariables false



theorem o3 : Opens Try.prog 3 (Kd.int .i64) (fun y => (Lit.int .i64 y).wf = true) (fun y => 1) := int Try.underlying3 (by kernel_rfl)
theorem o32 : Opens Try.prog 32 (Kd.slice 3 (Kd.int .i64)) (fun y => (y.length * 8 ≤ 140737488351232 ∧ ∀ x ∈ y, (Lit.int .i64 x).wf = true)) (fun y => ((y.map (fun _ => 1)).sum + 1)) := slice (B := 8) Try.underlying32 (by kernel_rfl) (by kernel_rfl) o3

end Go.Proofs.Ytekcpcipbccodaa.PV
