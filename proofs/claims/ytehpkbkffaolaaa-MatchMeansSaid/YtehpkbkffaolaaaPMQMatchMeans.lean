/- The pure statement of MatchMeans. -/
import Derived.Test.YtehpkbkffaolaaaPMx6
import Derived.Test.YtehpkbkffaolaaaPMK
namespace Go.Proofs.Ytehpkbkffaolaaa.PM
open Go.RowKit Go.Proofs.Ytehpkbkffaolaaa Go.Proofs.YtehpkbkffaolaaaW.PrintWords Go.Proofs.YtehpkbkffaolaaaW.PrintLast Go.Proofs.YtehpkbkffaolaaaW.PrintMore Go.Proofs.Ytehpkbkffaolaaa.Opn
def valiselaw9_MatchMeans.Pure : Prop := ∀ (l0 : List (S37)) (a1 : Int), (l0.length * 24 ≤ 140737488351232 ∧ ∀ x ∈ l0, wfS37 x) → (Lit.int .i64 a1).wf = true → ∃ k, valiselaw9_MatchMeans.f k l0 a1 = some true
end Go.Proofs.Ytehpkbkffaolaaa.PM
