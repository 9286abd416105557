/- The pure statement of RecordExtras. -/
import Derived.Test.YtkmnhlhpmfkloaaPRx3
import Derived.Test.YtkmnhlhpmfkloaaPRK
namespace Go.Proofs.Ytkmnhlhpmfkloaa.PR
open Go.RowKit Go.Proofs.Ytkmnhlhpmfkloaa Go.Proofs.YtkmnhlhpmfkloaaW.PrintWords Go.Proofs.YtkmnhlhpmfkloaaW.PrintLast Go.Proofs.YtkmnhlhpmfkloaaW.PrintMore Go.Proofs.Ytkmnhlhpmfkloaa.Opn
def valiselaw12_RecordExtras.Pure : Prop := ∀ (a0 : ByteArray) (l1 : List (S49)), a0.size ≤ 140737488351232 → (l1.length * 24 ≤ 140737488351232 ∧ ∀ x ∈ l1, wfS49 x) → ∃ k, valiselaw12_RecordExtras.f k a0 l1 = some true
end Go.Proofs.Ytkmnhlhpmfkloaa.PR
