/- The pure statement of RecordLocals. -/
import Derived.Test.YtkmnhlhpmfkloaaPLx4
import Derived.Test.YtkmnhlhpmfkloaaPLK
namespace Go.Proofs.Ytkmnhlhpmfkloaa.PL
open Go.RowKit Go.Proofs.Ytkmnhlhpmfkloaa Go.Proofs.YtkmnhlhpmfkloaaW.PrintWords Go.Proofs.YtkmnhlhpmfkloaaW.PrintLast Go.Proofs.YtkmnhlhpmfkloaaW.PrintMore Go.Proofs.Ytkmnhlhpmfkloaa.Opn
def valiselaw12_RecordLocals.Pure : Prop := ∀ (a0 : S24) (l1 : List Int) (a2 : Int), wfS24 a0 → (l1.length * 1 ≤ 140737488351232 ∧ ∀ x ∈ l1, (Lit.int .u8 x).wf = true) → (Lit.int .i64 a2).wf = true → ∃ k, valiselaw12_RecordLocals.f k a0.f0 a0.f1 a0.f2 a0.f3 a0.f4 a0.f5 a0.f6 a0.f7 a0.f8 a0.f9 l1 a2 = some true
end Go.Proofs.Ytkmnhlhpmfkloaa.PL
