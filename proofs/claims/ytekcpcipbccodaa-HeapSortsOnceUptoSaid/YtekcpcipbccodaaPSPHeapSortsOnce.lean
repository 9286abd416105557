/- HeapSortsOnce: the pure statement, proved: what is in order stays. -/
import Derived.Test.YtekcpcipbccodaaPSB
namespace Go.Proofs.Ytekcpcipbccodaa.PS.Pure
open Go.RowKit Go.Proofs.Ytekcpcipbccodaa Go.Proofs.YtekcpcipbccodaaW.PrintWords Go.Proofs.YtekcpcipbccodaaW.PrintLast Go.Proofs.YtekcpcipbccodaaW.PrintMore Go.Proofs.Ytekcpcipbccodaa.Pur Go.Proofs.Ytekcpcipbccodaa.Mem Go.Proofs.Ytekcpcipbccodaa.PS
set_option linter.unusedVariables false

def picks (vs p : List Int) : List Int := p.map fun q => rd vs q
theorem sort_ev (keys vs : List Int) (hl : keys.length ≤ 1048576) (hv : vs.length = keys.length) : Ev (fun k => heap_Sort_int.f k keys vs) (picks vs (orderV keys), 0) := by
  unfold heap_Sort_int.f
  have hlen := orderV_len keys
  refine pos (by omega) (bnd (order_f keys hl) ?_)
  have key : ∀ (d i : Nat) (out : List Int), i + d = keys.length → out = picks vs ((orderV keys).take i) → Ev (fun k => heap_Sort_int.l0 k vs out (orderV keys) ((orderV keys).length : Int) (i : Int)) (picks vs (orderV keys), 0) := by
    intro d
    induction d with
    | zero =>
      intro i out hd ho
      rw [List.take_of_length_le (by omega)] at ho
      exact Ev.step (fun k => heap_Sort_int.l0.eq_2 ..) (neg (by omega) (done (by rw [ho])))
    | succ d ih =>
      intro i out hd ho
      have hr := orderV_rd (keys := keys) (i := i) (by omega)
      have hol : out.length = i := by rw [ho]; simp [picks]; omega
      refine Ev.step (fun k => heap_Sort_int.l0.eq_2 ..) (pos (by omega) (pos (by omega) (pos (by omega) (pos (by omega) (pos (by omega) (pos (by omega) ?_))))))
      rw [w64 (x := (i : Int) + 1) (by omega) (by omega)]
      refine ih (i + 1) _ (by omega) ?_
      rw [ho, take_rd _ _ (by omega)]
      simp [picks]
  exact key keys.length 0 [] (by omega) (by simp [picks])
/-- Of keys that rise the order is the places as they are. -/
theorem order_id (s : List Int) (h : ∀ i j : Nat, i < j → j < s.length → rd s i ≤ rd s j) : orderV s = places s.length := by
  refine (orderV_ord s).eq ⟨List.Perm.refl _, ?_⟩
  unfold places
  rw [List.pairwise_map, List.pairwise_iff_getElem]
  intro i j hi hj hij
  rw [List.getElem_range, List.getElem_range]
  rw [List.length_range] at hj
  have := h i j hij hj
  unfold Ah
  omega
theorem picks_places (s : List Int) : picks s (places s.length) = s := by
  apply List.ext_getElem
  · simp [picks, places]
  · intro i h1 h2
    simp [picks, places, rd_nat _ _ h2]
theorem rd_picks (vs p : List Int) (i : Nat) (h : i < p.length) : rd (picks vs p) i = rd vs (rd p i) := by
  rw [rd_nat (picks vs p) i (by simpa [picks] using h), rd_nat p i h]
  simp [picks]
theorem HeapSortsOnce : valiselaw4_HeapSortsOnce.Pure := by
  intro l0 h0 hb
  have hl : l0.length ≤ 1048576 := by rw [sum_one] at hb; omega
  have hlen := orderV_len l0
  refine Ev.rounds ?_
  unfold valiselaw4_HeapSortsOnce.f
  refine bnd (ints_f l0 hl) (bnd (ints_f l0 hl) (Ev.bind (sort_ev l0 l0 hl rfl) (pos rfl ?_)))
  obtain ⟨s, hs⟩ : ∃ s, picks l0 (orderV l0) = s := ⟨_, rfl⟩
  have hsl : s.length = l0.length := by rw [← hs]; simp [picks, hlen]
  have hup : ∀ i j : Nat, i < j → j < s.length → rd s i ≤ rd s j := by
    intro i j hij hj
    have := orderV_lt (keys := l0) hij (by omega)
    rw [← hs, rd_picks _ _ _ (by omega), rd_picks _ _ _ (by omega)]
    unfold Ah at this
    omega
  have hid := order_id s hup
  have hpl : (places s.length).length = s.length := by simp [places]
  rw [hs, show ((s.length : Int) != (l0.length : Int)) = false by simp [hsl]]
  refine Ev.step (fun k => valiselaw4_HeapSortsOnce.j0.eq_2 ..) (neg (by simp) ?_)
  have last : Ev (fun k => valiselaw4_HeapSortsOnce.j2 k l0 s false) true := by
    refine Ev.step (fun k => valiselaw4_HeapSortsOnce.j2.eq_2 ..) (neg (by simp) (bnd (ints_f s (by omega)) (bnd (order_f s (by omega)) ?_)))
    rw [hid]
    refine pos (by omega) ?_
    have key : ∀ (d i : Nat), i + d = s.length → Ev (fun k => valiselaw4_HeapSortsOnce.l1 k (places s.length) (i : Int)) true := by
      intro d
      induction d with
      | zero =>
        intro i hd
        exact Ev.step (fun k => valiselaw4_HeapSortsOnce.l1.eq_2 ..) (neg (by omega) (done rfl))
      | succ d ih =>
        intro i hd
        refine Ev.step (fun k => valiselaw4_HeapSortsOnce.l1.eq_2 ..) (pos (by omega) (pos (by omega) (pos ?_ ?_)))
        · rw [rd_nat _ _ (by omega)]
          simp [places]
        · rw [w64 (x := (i : Int) + 1) (by omega) (by omega)]
          exact ih (i + 1) (by omega)
    exact key s.length 0 (by omega)
  have fin : Ev (fun k => valiselaw4_HeapSortsOnce.l0 k l0 s (s.length : Int)) true → ∀ (d i : Nat), 1 ≤ i → i + d = s.length → Ev (fun k => valiselaw4_HeapSortsOnce.l0 k l0 s (i : Int)) true := by
    intro hend d
    induction d with
    | zero =>
      intro i h1 hd
      obtain rfl : i = s.length := by omega
      exact hend
    | succ d ih =>
      intro i h1 hd
      obtain ⟨j, rfl⟩ : ∃ j, i = j + 1 := ⟨i - 1, by omega⟩
      have e1 : wrap64 (((j + 1 : Nat) : Int) - 1) = (j : Int) := by rw [w64 (by omega) (by omega)]; omega
      have := hup j (j + 1) (by omega) (by omega)
      refine Ev.step (fun k => valiselaw4_HeapSortsOnce.l0.eq_2 ..) (pos (by omega) ?_)
      rw [e1]
      refine pos (by omega) (pos (by omega) (pos (by omega) (neg (by omega) ?_)))
      rw [w64 (x := ((j + 1 : Nat) : Int) + 1) (by omega) (by omega)]
      exact ih (j + 2) (by omega) (by omega)
  have hend : ∀ n : Int, (s.length : Int) ≤ n → Ev (fun k => valiselaw4_HeapSortsOnce.l0 k l0 s n) true := by
    intro n hn
    refine Ev.step (fun k => valiselaw4_HeapSortsOnce.l0.eq_2 ..) (neg (by omega) (bnd (ints_f s (by omega)) (bnd (ints_f s (by omega)) (Ev.bind (sort_ev s s (by omega) rfl) (pos rfl ?_)))))
    rw [hid, picks_places]
    exact Ev.bind (equal_ev s (by omega)) last
  by_cases h1 : 1 ≤ s.length
  · exact fin (hend _ (Int.le_refl _)) (s.length - 1) 1 (Nat.le_refl _) (by omega)
  · exact hend 1 (by omega)
end Go.Proofs.Ytekcpcipbccodaa.PS.Pure
