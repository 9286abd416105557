/- HeapOrders: the pure statement, proved: Order is the document's answer, and keys are as they were. -/
import Derived.Test.YtekcpcipbccodaaPOA
namespace Go.Proofs.Ytekcpcipbccodaa.PO.Pure
open Go.RowKit Go.Proofs.Ytekcpcipbccodaa Go.Proofs.YtekcpcipbccodaaW.PrintWords Go.Proofs.YtekcpcipbccodaaW.PrintLast Go.Proofs.YtekcpcipbccodaaW.PrintMore Go.Proofs.Ytekcpcipbccodaa.Pur Go.Proofs.Ytekcpcipbccodaa.Mem Go.Proofs.Ytekcpcipbccodaa.PO
set_option linter.unusedVariables false

theorem HeapOrders : valiselaw4_HeapOrders.Pure := by
  intro l0 h0 hb
  have hl : l0.length ≤ 1048576 := by rw [sum_one] at hb; omega
  have ho : (orderV l0).length ≤ 1048576 := by rw [orderV_len]; exact hl
  refine Ev.rounds ?_
  unfold valiselaw4_HeapOrders.f
  exact bnd (ints_f l0 hl) (bnd (order_f l0 hl) (Ev.bind (rorder_ev l0 hl) (Ev.bind (equal_ev _ ho) (pos rfl (Ev.bind (equal_ev l0 hl) (done rfl))))))
end Go.Proofs.Ytekcpcipbccodaa.PO.Pure
