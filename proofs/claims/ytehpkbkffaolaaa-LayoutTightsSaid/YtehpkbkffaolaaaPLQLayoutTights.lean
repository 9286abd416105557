/- The pure statement of LayoutTights. -/
import Derived.Test.YtehpkbkffaolaaaPLx6
import Derived.Test.YtehpkbkffaolaaaPLK
namespace Go.Proofs.Ytehpkbkffaolaaa.PL
open Go.RowKit Go.Proofs.Ytehpkbkffaolaaa Go.Proofs.YtehpkbkffaolaaaW.PrintWords Go.Proofs.YtehpkbkffaolaaaW.PrintLast Go.Proofs.YtehpkbkffaolaaaW.PrintMore Go.Proofs.Ytehpkbkffaolaaa.Opn
def valiselaw13_LayoutTights.Pure : Prop := ∀ (l0 : List (S30)) (a1 : ByteArray), (l0.length * 192 ≤ 140737488351232 ∧ ∀ x ∈ l0, wfS30 x) → a1.size ≤ 140737488351232 → ∃ k, valiselaw13_LayoutTights.f k l0 a1 = some true
end Go.Proofs.Ytehpkbkffaolaaa.PL
