/- HeapDrainsWhatComes: the pure statement, proved: the condition: the arguments' bulk is at most 1048576. -/
import Derived.Test.YtekcpcipbccodaaPVQHeapDrainsWhatComes
namespace Go.Proofs.Ytekcpcipbccodaa.PV.Pure
open Go.RowKit Go.Proofs.Ytekcpcipbccodaa Go.Proofs.YtekcpcipbccodaaW.PrintWords Go.Proofs.YtekcpcipbccodaaW.PrintLast Go.Proofs.YtekcpcipbccodaaW.PrintMore Go.Proofs.Ytekcpcipbccodaa.PV
theorem HeapDrainsWhatComes : valiselaw4_HeapDrainsWhatComes.Pure := by
  intro l0 l1 h0 h1 hb
  unfold valiselaw4_HeapDrainsWhatComes.f
  rw [if_pos]
  rw [Mem.sum_ones, Mem.sum_ones] at hb
  omega
end Go.Proofs.Ytekcpcipbccodaa.PV.Pure
