/- The pure statement of RecordDescriptors. -/
import Derived.Test.YtkmnhlhpmfkloaaPDx3
import Derived.Test.YtkmnhlhpmfkloaaPDK
namespace Go.Proofs.Ytkmnhlhpmfkloaa.PD
open Go.RowKit Go.Proofs.Ytkmnhlhpmfkloaa Go.Proofs.YtkmnhlhpmfkloaaW.PrintWords Go.Proofs.YtkmnhlhpmfkloaaW.PrintLast Go.Proofs.YtkmnhlhpmfkloaaW.PrintMore Go.Proofs.Ytkmnhlhpmfkloaa.Opn
def valiselaw12_RecordDescriptors.Pure : Prop := ∀ (a0 : S24) (a1 : Bool) (l2 : List Int) (a3 : Int), wfS24 a0 → (l2.length * 1 ≤ 140737488351232 ∧ ∀ x ∈ l2, (Lit.int .u8 x).wf = true) → (Lit.int .i64 a3).wf = true → ∃ k, valiselaw12_RecordDescriptors.f k a0.f0 a0.f1 a0.f2 a0.f3 a0.f4 a0.f5 a0.f6 a0.f7 a0.f8 a0.f9 a1 l2 a3 = some true
end Go.Proofs.Ytkmnhlhpmfkloaa.PD
