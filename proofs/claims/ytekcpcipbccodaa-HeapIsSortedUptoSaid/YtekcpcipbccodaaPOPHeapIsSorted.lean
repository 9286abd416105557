/- HeapIsSorted: the pure statement, proved: Order tells each place once, along rising keys, equals by place. -/
import Derived.Test.YtekcpcipbccodaaPOA
namespace Go.Proofs.Ytekcpcipbccodaa.PO.Pure
open Go.RowKit Go.Proofs.Ytekcpcipbccodaa Go.Proofs.YtekcpcipbccodaaW.PrintWords Go.Proofs.YtekcpcipbccodaaW.PrintLast Go.Proofs.YtekcpcipbccodaaW.PrintMore Go.Proofs.Ytekcpcipbccodaa.Pur Go.Proofs.Ytekcpcipbccodaa.Mem Go.Proofs.Ytekcpcipbccodaa.PO
set_option linter.unusedVariables false

theorem marks_ev (keys : List Int) (hl : keys.length ≤ 1048576) : ∀ (d i : Nat) (x : List Bool), i + d = keys.length → x.length = keys.length → (∀ v : Nat, x.getD v false = true → ∃ j : Nat, j < i ∧ rd (orderV keys) j = v) →
    Ev (fun k => valiselaw4_HeapIsSorted.l1 k (orderV keys) x (i : Int)) true := by
  have hlen := orderV_len keys
  intro d
  induction d with
  | zero =>
    intro i x hd hx hm
    exact Ev.step (fun k => valiselaw4_HeapIsSorted.l1.eq_2 ..) (neg (by omega) (done rfl))
  | succ d ih =>
    intro i x hd hx hm
    have hr := orderV_rd (keys := keys) (i := i) (by omega)
    obtain ⟨v, hv⟩ : ∃ v : Nat, rd (orderV keys) i = (v : Int) := ⟨_, (Int.toNat_of_nonneg hr.1).symm⟩
    have hno : ¬ rdOf false x (v : Int) = true := by
      intro e
      unfold rdOf at e
      rw [Int.toNat_natCast] at e
      obtain ⟨j, hj, he⟩ := hm v e
      have := orderV_lt (keys := keys) hj (by omega)
      rw [he, hv] at this
      unfold Ah at this
      omega
    refine Ev.step (fun k => valiselaw4_HeapIsSorted.l1.eq_2 ..) (pos (by omega) (pos (by omega) ?_))
    rw [hv]
    refine pos (by omega) (pos (by omega) (neg hno ?_))
    rw [w64 (x := (i : Int) + 1) (by omega) (by omega), Int.toNat_natCast]
    refine ih (i + 1) _ (by omega) (by simp [hx]) (fun q hq => ?_)
    rw [List.getD_eq_getElem?_getD, List.getElem?_set] at hq
    by_cases hvq : v = q
    · subst hvq
      exact ⟨i, by omega, hv⟩
    · rw [if_neg hvq, ← List.getD_eq_getElem?_getD] at hq
      obtain ⟨j, hj, he⟩ := hm q hq
      exact ⟨j, by omega, he⟩
theorem HeapIsSorted : valiselaw4_HeapIsSorted.Pure := by
  intro l0 h0 hb
  have hl : l0.length ≤ 1048576 := by rw [sum_one] at hb; omega
  have hlen := orderV_len l0
  refine Ev.rounds ?_
  unfold valiselaw4_HeapIsSorted.f
  refine bnd (ints_f l0 hl) (bnd (order_f l0 hl) (pos (by omega) ?_))
  have key : ∀ (d i : Nat), i + d = l0.length → Ev (fun k => valiselaw4_HeapIsSorted.l0 k l0 (orderV l0) (i : Int)) true := by
    intro d
    induction d with
    | zero =>
      intro i hd
      refine Ev.step (fun k => valiselaw4_HeapIsSorted.l0.eq_2 ..) (neg (by omega) (pos (by omega) (pos (by omega) ?_)))
      exact marks_ev l0 hl l0.length 0 _ (by omega) (by simp) (fun v hv => by
        rw [List.getD_eq_getElem?_getD, List.getElem?_replicate] at hv
        split at hv <;> simp at hv)
    | succ d ih =>
      intro i hd
      have hr := orderV_rd (keys := l0) (i := i) (by omega)
      have hn := ih (i + 1) (by omega)
      rw [show ((i + 1 : Nat) : Int) = wrap64 ((i : Int) + 1) by rw [w64 (by omega) (by omega)]; omega] at hn
      refine Ev.step (fun k => valiselaw4_HeapIsSorted.l0.eq_2 ..) (pos (by omega) (pos (by omega) (neg (by omega) ?_)))
      rw [decide_eq_false (show ¬ rd (orderV l0) (i : Int) ≥ (l0.length : Int) by omega)]
      refine Ev.step (fun k => valiselaw4_HeapIsSorted.j1.eq_2 ..) (neg (by simp) ?_)
      by_cases h0 : (i : Int) > 0
      · obtain ⟨j, rfl⟩ : ∃ j, i = j + 1 := ⟨i - 1, by omega⟩
        have e1 : wrap64 (((j + 1 : Nat) : Int) - 1) = (j : Int) := by rw [w64 (by omega) (by omega)]; omega
        have hj := orderV_rd (keys := l0) (i := j) (by omega)
        have hlt := orderV_lt (keys := l0) (i := j) (j := j + 1) (by omega) (by omega)
        refine pos h0 ?_
        rw [e1]
        unfold Ah at hlt
        refine pos (by omega) (pos (by omega) (pos (by omega) (pos (by omega) (pos (by omega) (pos (by omega) (pos (by omega) (pos (by omega) (neg (by omega) ?_))))))))
        by_cases he : rd l0 (rd (orderV l0) (j : Int)) = rd l0 (rd (orderV l0) ((j + 1 : Nat) : Int))
        · exact pos he (neg (by omega) hn)
        · exact neg he hn
      · exact neg h0 hn
  exact key l0.length 0 (by omega)
end Go.Proofs.Ytekcpcipbccodaa.PO.Pure
