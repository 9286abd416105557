/- HeapSortsPairs: the pure statement, proved: Sort of pairs: the error; the values in Order's order; what was handed in stays. -/
import Derived.Test.YtekcpcipbccodaaPOA
namespace Go.Proofs.Ytekcpcipbccodaa.PO.Pure
open Go.RowKit Go.Proofs.Ytekcpcipbccodaa Go.Proofs.YtekcpcipbccodaaW.PrintWords Go.Proofs.YtekcpcipbccodaaW.PrintLast Go.Proofs.YtekcpcipbccodaaW.PrintMore Go.Proofs.Ytekcpcipbccodaa.Pur Go.Proofs.Ytekcpcipbccodaa.Mem Go.Proofs.Ytekcpcipbccodaa.PO
set_option linter.unusedVariables false

abbrev Pr := S36
theorem sum_bulk (l : List Pr) : l.length ≤ (l.map (fun x => bkS36 x)).sum := by
  induction l with
  | nil => simp
  | cons x l ih =>
    have h1 : 1 ≤ bkS36 x := by unfold bkS36; omega
    rw [List.map_cons, List.sum_cons, List.length_cons]
    omega
theorem rdP_nat (xs : List Pr) (i : Nat) (h : i < xs.length) : rd_T36 xs (i : Int) = xs[i] := by
  simp [rd_T36, List.getD_eq_getElem?_getD, h]
theorem same_pr (s : Pr) : ¬ ((!((s.f0.toList) == (s.f0.toList)) || (!(s.f1 == s.f1))) = true) := by simp
def picked (vs : List Pr) (p : List Int) : List Pr := p.map fun q => rd_T36 vs q
theorem sort_ev (keys : List Int) (vs : List Pr) (hl : keys.length ≤ 1048576) (hv : vs.length = keys.length) : Ev (fun k => valiselaw4_Pair.f k keys vs) (picked vs (orderV keys), 0) := by
  unfold valiselaw4_Pair.f
  have hlen := orderV_len keys
  refine pos (by omega) (bnd (order_f keys hl) ?_)
  have key : ∀ (d i : Nat) (out : List Pr), i + d = keys.length → out = picked vs ((orderV keys).take i) → Ev (fun k => valiselaw4_Pair.l0 k vs out (orderV keys) ((orderV keys).length : Int) (i : Int)) (picked vs (orderV keys), 0) := by
    intro d
    induction d with
    | zero =>
      intro i out hd ho
      rw [List.take_of_length_le (by omega)] at ho
      exact Ev.step (fun k => valiselaw4_Pair.l0.eq_2 ..) (neg (by omega) (done (by rw [ho])))
    | succ d ih =>
      intro i out hd ho
      have hr := orderV_rd (keys := keys) (i := i) (by omega)
      have hol : out.length = i := by rw [ho]; simp [picked]; omega
      refine Ev.step (fun k => valiselaw4_Pair.l0.eq_2 ..) (pos (by omega) (pos (by omega) (pos (by omega) (pos (by omega) (pos (by omega) (pos (by omega) ?_))))))
      rw [w64 (x := (i : Int) + 1) (by omega) (by omega)]
      refine ih (i + 1) _ (by omega) ?_
      rw [ho, take_rd _ _ (by omega)]
      simp [picked]
  exact key keys.length 0 [] (by omega) (by simp [picked])
theorem HeapSortsPairs : valiselaw4_HeapSortsPairs.Pure := by
  intro l0 l1 h0 h1 hb
  have hl : l0.length ≤ 1048576 := by rw [sum_one] at hb; omega
  have hl1 : l1.length ≤ 1048576 := by have := sum_bulk l1; omega
  have hlen := orderV_len l0
  refine Ev.rounds ?_
  unfold valiselaw4_HeapSortsPairs.f
  refine pos (by omega) (pos (by omega) ?_)
  rw [cpy_same (by simp)]
  refine bnd rfl (bnd (ints_f l0 hl) ?_)
  have key : ∀ (out : List Pr) (e : Int), Ev (fun k => valiselaw4_HeapSortsPairs.l0 k l0 l1 l1 l0 out e (l1.length : Int)) true → ∀ (d i : Nat), i + d = l1.length → Ev (fun k => valiselaw4_HeapSortsPairs.l0 k l0 l1 l1 l0 out e (i : Int)) true := by
    intro out e hend d
    induction d with
    | zero =>
      intro i hd
      obtain rfl : i = l1.length := by omega
      exact hend
    | succ d ih =>
      intro i hd
      refine Ev.step (fun k => valiselaw4_HeapSortsPairs.l0.eq_2 ..) (pos (by omega) (pos (by omega) (pos (by omega) (neg (same_pr _) ?_))))
      rw [w64 (x := (i : Int) + 1) (by omega) (by omega)]
      exact ih (i + 1) (by omega)
  by_cases hlen2 : l1.length = l0.length
  · refine Ev.bind (sort_ev l0 l1 hl hlen2) ?_
    refine key _ _ ?_ l1.length 0 (by omega)
    refine Ev.step (fun k => valiselaw4_HeapSortsPairs.l0.eq_2 ..) (neg (by omega) (Ev.bind (equal_ev l0 hl) (pos rfl (pos (by omega) (Ev.bind (rorder_ev l0 hl) (pos rfl ?_))))))
    have hpl : (picked l1 (orderV l0)).length = (orderV l0).length := by simp [picked]
    rw [hpl, show ((((orderV l0).length : Nat) : Int) != ((orderV l0).length : Int)) = false by simp]
    refine Ev.step (fun k => valiselaw4_HeapSortsPairs.j1.eq_2 ..) (neg (by simp) ?_)
    have key2 : ∀ (d i : Nat), i + d = l0.length → Ev (fun k => valiselaw4_HeapSortsPairs.l1 k l1 (picked l1 (orderV l0)) (orderV l0) (i : Int)) true := by
      intro d
      induction d with
      | zero =>
        intro i hd
        exact Ev.step (fun k => valiselaw4_HeapSortsPairs.l1.eq_2 ..) (neg (by omega) (done rfl))
      | succ d ih =>
        intro i hd
        have hr := orderV_rd (keys := l0) (i := i) (by omega)
        have hp : rd_T36 (picked l1 (orderV l0)) (i : Int) = rd_T36 l1 (rd (orderV l0) (i : Int)) := by
          rw [rdP_nat _ _ (by omega), rd_nat _ _ (by omega)]
          simp [picked]
        refine Ev.step (fun k => valiselaw4_HeapSortsPairs.l1.eq_2 ..) (pos (by omega) (pos (by omega) (pos (by omega) (pos (by omega) (pos (by omega) ?_)))))
        rw [hp]
        refine neg (same_pr _) ?_
        rw [w64 (x := (i : Int) + 1) (by omega) (by omega)]
        exact ih (i + 1) (by omega)
    exact key2 l0.length 0 (by omega)
  · refine Ev.bind (a := (([] : List Pr), (40 : Int))) ?_ ?_
    · unfold valiselaw4_Pair.f
      exact neg (by omega) (done rfl)
    · refine key _ _ ?_ l1.length 0 (by omega)
      exact Ev.step (fun k => valiselaw4_HeapSortsPairs.l0.eq_2 ..) (neg (by omega) (Ev.bind (equal_ev l0 hl) (pos rfl (neg (by omega) (bnd rfl (pos rfl (done rfl)))))))
end Go.Proofs.Ytekcpcipbccodaa.PO.Pure
