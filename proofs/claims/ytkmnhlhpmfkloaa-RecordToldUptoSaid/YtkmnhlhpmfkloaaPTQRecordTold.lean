/- The pure statement of RecordTold. -/
import Derived.Test.YtkmnhlhpmfkloaaPTx2
import Derived.Test.YtkmnhlhpmfkloaaPTK
namespace Go.Proofs.Ytkmnhlhpmfkloaa.PT
open Go.RowKit Go.Proofs.Ytkmnhlhpmfkloaa Go.Proofs.YtkmnhlhpmfkloaaW.PrintWords Go.Proofs.YtkmnhlhpmfkloaaW.PrintLast Go.Proofs.YtkmnhlhpmfkloaaW.PrintMore Go.Proofs.Ytkmnhlhpmfkloaa.Opn
def valiselaw12_RecordTold.Pure : Prop := ∀ (l0 : List Int) (a1 : S24) (a2 : Bool) (l3 : List Int), (l0.length * 1 ≤ 140737488351232 ∧ ∀ x ∈ l0, (Lit.int .u8 x).wf = true) → wfS24 a1 → (l3.length * 1 ≤ 140737488351232 ∧ ∀ x ∈ l3, (Lit.int .u8 x).wf = true) → ((l0.map (fun _ => 1)).sum + 1) + bkS24 a1 + 1 + ((l3.map (fun _ => 1)).sum + 1) ≤ 1048576 → ∃ k, valiselaw12_RecordTold.f k l0 a1.f0 a1.f1 a1.f2 a1.f3 a1.f4 a1.f5 a1.f6 a1.f7 a1.f8 a1.f9 a2 l3 = some true
end Go.Proofs.Ytkmnhlhpmfkloaa.PT
