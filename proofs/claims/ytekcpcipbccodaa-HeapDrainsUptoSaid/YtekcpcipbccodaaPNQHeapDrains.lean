/- The pure statement of HeapDrains. -/
import Derived.Test.YtekcpcipbccodaaPNx1
import Derived.Test.YtekcpcipbccodaaPNK
namespace Go.Proofs.Ytekcpcipbccodaa.PN
open Go.RowKit Go.Proofs.Ytekcpcipbccodaa Go.Proofs.YtekcpcipbccodaaW.PrintWords Go.Proofs.YtekcpcipbccodaaW.PrintLast Go.Proofs.YtekcpcipbccodaaW.PrintMore Go.Proofs.Ytekcpcipbccodaa.Opn
def valiselaw4_HeapDrains.Pure : Prop := ∀ (l0 : List Int) (a1 : Int), (l0.length * 8 ≤ 140737488351232 ∧ ∀ x ∈ l0, (Lit.int .i64 x).wf = true) → (Lit.int .i64 a1).wf = true → ((l0.map (fun _ => 1)).sum + 1) + 1 ≤ 1048576 → valiselaw4_HeapDrains.f l0 a1 = some true
end Go.Proofs.Ytekcpcipbccodaa.PN
