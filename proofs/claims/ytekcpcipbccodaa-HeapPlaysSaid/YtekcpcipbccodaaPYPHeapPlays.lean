/- HeapPlays: the pure statement, proved: a script of 2^47 bytes at most is played. -/
import Derived.Test.YtekcpcipbccodaaPYQHeapPlays
namespace Go.Proofs.Ytekcpcipbccodaa.PY.Pure
open Go.RowKit Go.Proofs.Ytekcpcipbccodaa Go.Proofs.YtekcpcipbccodaaW.PrintWords Go.Proofs.YtekcpcipbccodaaW.PrintLast Go.Proofs.YtekcpcipbccodaaW.PrintMore Go.Proofs.Ytekcpcipbccodaa.PY
theorem HeapPlays : valiselaw4_HeapPlays.Pure := by
  intro l0 h0
  unfold valiselaw4_HeapPlays.f
  rw [if_pos h0.1]
end Go.Proofs.Ytekcpcipbccodaa.PY.Pure
