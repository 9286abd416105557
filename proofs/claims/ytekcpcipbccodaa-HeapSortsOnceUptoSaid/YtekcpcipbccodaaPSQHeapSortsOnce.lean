/- The pure statement of HeapSortsOnce. -/
import Derived.Test.YtekcpcipbccodaaPSx2
import Derived.Test.YtekcpcipbccodaaPSK
namespace Go.Proofs.Ytekcpcipbccodaa.PS
open Go.RowKit Go.Proofs.Ytekcpcipbccodaa Go.Proofs.YtekcpcipbccodaaW.PrintWords Go.Proofs.YtekcpcipbccodaaW.PrintLast Go.Proofs.YtekcpcipbccodaaW.PrintMore Go.Proofs.Ytekcpcipbccodaa.Opn
def valiselaw4_HeapSortsOnce.Pure : Prop := ∀ (l0 : List Int), (l0.length * 8 ≤ 140737488351232 ∧ ∀ x ∈ l0, (Lit.int .i64 x).wf = true) → ((l0.map (fun _ => 1)).sum + 1) ≤ 1048576 → ∃ k, valiselaw4_HeapSortsOnce.f k l0 = some true
end Go.Proofs.Ytekcpcipbccodaa.PS
