/- The pure statement of HeapDrainsWhatComes. -/
import Derived.Test.YtekcpcipbccodaaPVx1
import Derived.Test.YtekcpcipbccodaaPVK
namespace Go.Proofs.Ytekcpcipbccodaa.PV
open Go.RowKit Go.Proofs.Ytekcpcipbccodaa Go.Proofs.YtekcpcipbccodaaW.PrintWords Go.Proofs.YtekcpcipbccodaaW.PrintLast Go.Proofs.YtekcpcipbccodaaW.PrintMore Go.Proofs.Ytekcpcipbccodaa.Opn
def valiselaw4_HeapDrainsWhatComes.Pure : Prop := ∀ (l0 : List Int) (l1 : List Int), (l0.length * 8 ≤ 140737488351232 ∧ ∀ x ∈ l0, (Lit.int .i64 x).wf = true) → (l1.length * 8 ≤ 140737488351232 ∧ ∀ x ∈ l1, (Lit.int .i64 x).wf = true) → ((l0.map (fun _ => 1)).sum + 1) + ((l1.map (fun _ => 1)).sum + 1) ≤ 1048576 → valiselaw4_HeapDrainsWhatComes.f l0 l1 = some true
end Go.Proofs.Ytekcpcipbccodaa.PV
