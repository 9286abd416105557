/- What the small functions of layer 4's law and reference compute: copies, equality, the document's Order. -/
import Derived.Test.YtekcpcipbccodaaPSQHeapSortsOnce
import Derived.Test.YtekcpcipbccodaaHpV
namespace Go.Proofs.Ytekcpcipbccodaa.PS
open Go.RowKit Go.Proofs.Ytekcpcipbccodaa Go.Proofs.YtekcpcipbccodaaW.PrintWords Go.Proofs.YtekcpcipbccodaaW.PrintLast Go.Proofs.YtekcpcipbccodaaW.PrintMore Go.Proofs.Ytekcpcipbccodaa.Pur Go.Proofs.Ytekcpcipbccodaa.Mem
set_option linter.unusedVariables false

theorem sum_one (l : List Int) : (l.map (fun _ => 1)).sum = l.length := by
  induction l with
  | nil => rfl
  | cons x l ih => simp [ih]; omega
theorem ints_f (l : List Int) (hl : l.length ≤ 1048576) : valiselaw4_ints.f l = some l := by
  unfold valiselaw4_ints.f
  rw [if_pos (by omega), if_pos (by omega), cpy_same (by simp)]
theorem order_f (l : List Int) (hl : l.length ≤ 1048576) : heap_Order.f l = some (orderV l) := by
  unfold heap_Order.f
  rw [if_pos (by omega)]
theorem equal_ev (l : List Int) (hl : l.length ≤ 1048576) : Ev (fun k => valiselaw4_equal.f k l l) true := by
  unfold valiselaw4_equal.f
  refine pos rfl ?_
  have key : ∀ (d i : Nat), i + d = l.length → Ev (fun k => valiselaw4_equal.l0 k l l (i : Int)) true := by
    intro d
    induction d with
    | zero =>
      intro i hd
      exact Ev.step (fun k => valiselaw4_equal.l0.eq_2 ..) (neg (by omega) (done rfl))
    | succ d ih =>
      intro i hd
      refine Ev.step (fun k => valiselaw4_equal.l0.eq_2 ..) (pos (by omega) (pos (by omega) (pos (by omega) (pos rfl ?_))))
      rw [w64 (x := (i : Int) + 1) (by omega) (by omega)]
      exact ih (i + 1) (by omega)
  exact key l.length 0 (by omega)
end Go.Proofs.Ytekcpcipbccodaa.PS
