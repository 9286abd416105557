/- The pure statement of RecordEnds. -/
import Derived.Test.YtkmnhlhpmfkloaaPEx4
import Derived.Test.YtkmnhlhpmfkloaaPEK
namespace Go.Proofs.Ytkmnhlhpmfkloaa.PE
open Go.RowKit Go.Proofs.Ytkmnhlhpmfkloaa Go.Proofs.YtkmnhlhpmfkloaaW.PrintWords Go.Proofs.YtkmnhlhpmfkloaaW.PrintLast Go.Proofs.YtkmnhlhpmfkloaaW.PrintMore Go.Proofs.Ytkmnhlhpmfkloaa.Opn
def valiselaw12_RecordEnds.Pure : Prop := ∀ (a0 : S57) (l1 : List Int) (a2 : Int), wfS57 a0 → (l1.length * 1 ≤ 140737488351232 ∧ ∀ x ∈ l1, (Lit.int .u8 x).wf = true) → (Lit.int .i64 a2).wf = true → ∃ k, valiselaw12_RecordEnds.f k a0.f0 a0.f1 a0.f2 a0.f3 a0.f4 a0.f5 a0.f6 l1 a2 = some true
end Go.Proofs.Ytkmnhlhpmfkloaa.PE
