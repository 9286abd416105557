/- The pure statement of HeapSortsPairs. -/
import Derived.Test.YtekcpcipbccodaaPOx5
import Derived.Test.YtekcpcipbccodaaPOK
namespace Go.Proofs.Ytekcpcipbccodaa.PO
open Go.RowKit Go.Proofs.Ytekcpcipbccodaa Go.Proofs.YtekcpcipbccodaaW.PrintWords Go.Proofs.YtekcpcipbccodaaW.PrintLast Go.Proofs.YtekcpcipbccodaaW.PrintMore Go.Proofs.Ytekcpcipbccodaa.Opn
def valiselaw4_HeapSortsPairs.Pure : Prop := ∀ (l0 : List Int) (l1 : List (S36)), (l0.length * 8 ≤ 140737488351232 ∧ ∀ x ∈ l0, (Lit.int .i64 x).wf = true) → (l1.length * 24 ≤ 140737488351232 ∧ ∀ x ∈ l1, wfS36 x) → ((l0.map (fun _ => 1)).sum + 1) + ((l1.map (fun x => bkS36 x)).sum + 1) ≤ 1048576 → ∃ k, valiselaw4_HeapSortsPairs.f k l0 l1 = some true
end Go.Proofs.Ytekcpcipbccodaa.PO
