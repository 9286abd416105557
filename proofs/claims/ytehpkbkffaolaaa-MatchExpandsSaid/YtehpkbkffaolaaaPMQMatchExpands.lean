/- The pure statement of MatchExpands. -/
import Derived.Test.YtehpkbkffaolaaaPMx4
import Derived.Test.YtehpkbkffaolaaaPMK
namespace Go.Proofs.Ytehpkbkffaolaaa.PM
open Go.RowKit Go.Proofs.Ytehpkbkffaolaaa Go.Proofs.YtehpkbkffaolaaaW.PrintWords Go.Proofs.YtehpkbkffaolaaaW.PrintLast Go.Proofs.YtehpkbkffaolaaaW.PrintMore Go.Proofs.Ytehpkbkffaolaaa.Opn
def valiselaw9_MatchExpands.Pure : Prop := ∀ (l0 : List (S37)) (a1 : Int), (l0.length * 24 ≤ 140737488351232 ∧ ∀ x ∈ l0, wfS37 x) → (Lit.int .i64 a1).wf = true → ∃ k, valiselaw9_MatchExpands.f k l0 a1 = some true
end Go.Proofs.Ytehpkbkffaolaaa.PM
