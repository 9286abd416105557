/- HeapDrains: the pure statement, proved: the condition: the arguments' bulk is at most 1048576. -/
import Derived.Test.YtekcpcipbccodaaPNQHeapDrains
namespace Go.Proofs.Ytekcpcipbccodaa.PN.Pure
open Go.RowKit Go.Proofs.Ytekcpcipbccodaa Go.Proofs.YtekcpcipbccodaaW.PrintWords Go.Proofs.YtekcpcipbccodaaW.PrintLast Go.Proofs.YtekcpcipbccodaaW.PrintMore Go.Proofs.Ytekcpcipbccodaa.PN
theorem HeapDrains : valiselaw4_HeapDrains.Pure := by
  intro l0 a1 h0 h1 hb
  unfold valiselaw4_HeapDrains.f
  rw [if_pos]
  rw [Mem.sum_ones] at hb
  omega
end Go.Proofs.Ytekcpcipbccodaa.PN.Pure
