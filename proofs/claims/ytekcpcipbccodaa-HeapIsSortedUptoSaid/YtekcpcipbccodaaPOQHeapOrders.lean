/- The pure statement of HeapOrders. -/
import Derived.Test.YtekcpcipbccodaaPOx3
import Derived.Test.YtekcpcipbccodaaPOK
namespace Go.Proofs.Ytekcpcipbccodaa.PO
open Go.RowKit Go.Proofs.Ytekcpcipbccodaa Go.Proofs.YtekcpcipbccodaaW.PrintWords Go.Proofs.YtekcpcipbccodaaW.PrintLast Go.Proofs.YtekcpcipbccodaaW.PrintMore Go.Proofs.Ytekcpcipbccodaa.Opn
def valiselaw4_HeapOrders.Pure : Prop := ∀ (l0 : List Int), (l0.length * 8 ≤ 140737488351232 ∧ ∀ x ∈ l0, (Lit.int .i64 x).wf = true) → ((l0.map (fun _ => 1)).sum + 1) ≤ 1048576 → ∃ k, valiselaw4_HeapOrders.f k l0 = some true
end Go.Proofs.Ytekcpcipbccodaa.PO
