/- The pure statement of RecordFields. -/
import Derived.Test.YtkmnhlhpmfkloaaPRx4
import Derived.Test.YtkmnhlhpmfkloaaPRK
namespace Go.Proofs.Ytkmnhlhpmfkloaa.PR
open Go.RowKit Go.Proofs.Ytkmnhlhpmfkloaa Go.Proofs.YtkmnhlhpmfkloaaW.PrintWords Go.Proofs.YtkmnhlhpmfkloaaW.PrintLast Go.Proofs.YtkmnhlhpmfkloaaW.PrintMore Go.Proofs.Ytkmnhlhpmfkloaa.Opn
def valiselaw12_RecordFields.Pure : Prop := ∀ (l0 : List (S49)) (l1 : List (S49)) (a2 : ByteArray), (l0.length * 24 ≤ 140737488351232 ∧ ∀ x ∈ l0, wfS49 x) → (l1.length * 24 ≤ 140737488351232 ∧ ∀ x ∈ l1, wfS49 x) → a2.size ≤ 140737488351232 → ((l0.map (fun x => bkS49 x)).sum + 1) + ((l1.map (fun x => bkS49 x)).sum + 1) + (a2.size + 1) ≤ 1048576 → ∃ k, valiselaw12_RecordFields.f k l0 l1 a2 = some true
end Go.Proofs.Ytkmnhlhpmfkloaa.PR
