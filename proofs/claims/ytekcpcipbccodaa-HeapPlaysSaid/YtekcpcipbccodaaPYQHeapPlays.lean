/- The pure statement of HeapPlays. -/
import Derived.Test.YtekcpcipbccodaaPYx1
import Derived.Test.YtekcpcipbccodaaPYK
namespace Go.Proofs.Ytekcpcipbccodaa.PY
open Go.RowKit Go.Proofs.Ytekcpcipbccodaa Go.Proofs.YtekcpcipbccodaaW.PrintWords Go.Proofs.YtekcpcipbccodaaW.PrintLast Go.Proofs.YtekcpcipbccodaaW.PrintMore Go.Proofs.Ytekcpcipbccodaa.Opn
def valiselaw4_HeapPlays.Pure : Prop := ∀ (l0 : List (S28)), (l0.length * 32 ≤ 140737488351232 ∧ ∀ x ∈ l0, wfS28 x) → valiselaw4_HeapPlays.f l0 = some true
end Go.Proofs.Ytekcpcipbccodaa.PY
