/- What the small functions of layer 4's law and reference compute: copies, equality, the document's Order. -/
import Derived.Test.YtekcpcipbccodaaPOQHeapOrders
import Derived.Test.YtekcpcipbccodaaPOQHeapIsSorted
import Derived.Test.YtekcpcipbccodaaPOQHeapSortsPairs
import Derived.Test.YtekcpcipbccodaaHpV
namespace Go.Proofs.Ytekcpcipbccodaa.PO
open Go.RowKit Go.Proofs.Ytekcpcipbccodaa Go.Proofs.YtekcpcipbccodaaW.PrintWords Go.Proofs.YtekcpcipbccodaaW.PrintLast Go.Proofs.YtekcpcipbccodaaW.PrintMore Go.Proofs.Ytekcpcipbccodaa.Pur Go.Proofs.Ytekcpcipbccodaa.Mem
set_option linter.unusedVariables false

theorem sum_one (l : List Int) : (l.map (fun _ => 1)).sum = l.length := by
  induction l with
  | nil => rfl
  | cons x l ih => simp [ih]; omega
theorem ints_f (l : List Int) (hl : l.length ≤ 1048576) : valiselaw4_ints.f l = some l := by
  unfold valiselaw4_ints.f
  rw [if_pos (by omega), if_pos (by omega), cpy_same (by simp)]
theorem order_f (l : List Int) (hl : l.length ≤ 1048576) : heap_Order.f l = some (orderV l) := by
  unfold heap_Order.f
  rw [if_pos (by omega)]
theorem equal_ev (l : List Int) (hl : l.length ≤ 1048576) : Ev (fun k => valiselaw4_equal.f k l l) true := by
  unfold valiselaw4_equal.f
  refine pos rfl ?_
  have key : ∀ (d i : Nat), i + d = l.length → Ev (fun k => valiselaw4_equal.l0 k l l (i : Int)) true := by
    intro d
    induction d with
    | zero =>
      intro i hd
      exact Ev.step (fun k => valiselaw4_equal.l0.eq_2 ..) (neg (by omega) (done rfl))
    | succ d ih =>
      intro i hd
      refine Ev.step (fun k => valiselaw4_equal.l0.eq_2 ..) (pos (by omega) (pos (by omega) (pos (by omega) (pos rfl ?_))))
      rw [w64 (x := (i : Int) + 1) (by omega) (by omega)]
      exact ih (i + 1) (by omega)
  exact key l.length 0 (by omega)
theorem ahead_f (keys : List Int) (a b : Int) (ha : 0 ≤ a ∧ a < keys.length) (hb : 0 ≤ b ∧ b < keys.length) (hne : a ≠ b) : valiseref4_ahead.f keys a b = some (leB keys a b) := by
  unfold valiseref4_ahead.f leB
  rw [if_pos ha.1, if_pos ha.2, if_pos hb.1, if_pos hb.2]
  by_cases h : rd keys a < rd keys b
  · rw [if_pos h, decide_eq_true (.inl h)]
  · rw [if_neg h]
    by_cases h2 : rd keys a = rd keys b
    · rw [if_pos h2]
      congr 1
      rw [Bool.eq_iff_iff, decide_eq_true_iff, decide_eq_true_iff]
      omega
    · rw [if_neg h2, decide_eq_false (by omega)]
theorem drop_rd (xs : List Int) (n : Nat) (h : n < xs.length) : xs.drop n = rd xs n :: xs.drop (n + 1) := by
  rw [List.drop_eq_getElem_cons h, rd_nat _ _ h]
theorem merge_ev (keys a b : List Int) (ha : ∀ x ∈ a, 0 ≤ x ∧ x < keys.length) (hb : ∀ x ∈ b, 0 ≤ x ∧ x < keys.length) (hab : ∀ x ∈ a, ∀ y ∈ b, x ≠ y) (hl : a.length + b.length ≤ 1048576) :
    Ev (fun k => valiseref4_merge.f k keys a b) (List.merge a b (leB keys)) := by
  unfold valiseref4_merge.f
  have key : ∀ (d i j : Nat) (out : List Int), d = (a.length - i) + (b.length - j) → i ≤ a.length → j ≤ b.length → out.length = i + j → out ++ List.merge (a.drop i) (b.drop j) (leB keys) = List.merge a b (leB keys) →
      Ev (fun k => valiseref4_merge.l0 k keys a b out (i : Int) (j : Int)) (List.merge a b (leB keys)) := by
    intro d
    induction d with
    | zero =>
      intro i j out hd hi hj ho he
      obtain rfl : i = a.length := by omega
      obtain rfl : j = b.length := by omega
      refine Ev.step (fun k => valiseref4_merge.l0.eq_2 ..) (neg (by omega) (Ev.step (fun k => valiseref4_merge.j1.eq_2 ..) (neg (by simp) (done ?_))))
      rw [← he]; simp
    | succ d ih =>
      intro i j out hd hi hj ho he
      have hgo : ∀ {A : Nat → Option (List Int)}, Ev (fun k => valiseref4_merge.j1 k keys a b out (i : Int) (j : Int) true) (List.merge a b (leB keys)) → Ev (fun k => valiseref4_merge.l0 k keys a b out (i : Int) (j : Int)) (List.merge a b (leB keys)) := by
        intro _ h
        refine Ev.step (fun k => valiseref4_merge.l0.eq_2 ..) ?_
        by_cases h1 : i < a.length
        · exact pos (by omega) h
        · refine neg (by omega) ?_
          rw [decide_eq_true (show (j : Int) < (b.length : Int) by omega)]
          exact h
      refine hgo (A := fun _ => none) (Ev.step (fun k => valiseref4_merge.j1.eq_2 ..) (pos rfl ?_))
      have takeA : i < a.length → out ++ rd a i :: List.merge (a.drop (i + 1)) (b.drop j) (leB keys) = List.merge a b (leB keys) → Ev (fun k => valiseref4_merge.l0 k keys a b (out ++ [rd a i]) (wrap64 ((i : Int) + 1)) (j : Int)) (List.merge a b (leB keys)) := by
        intro h1 h2
        rw [w64 (x := (i : Int) + 1) (by omega) (by omega)]
        exact ih (i + 1) j _ (by omega) (by omega) hj (by simp; omega) (by rw [← h2]; simp)
      have takeB : j < b.length → out ++ rd b j :: List.merge (a.drop i) (b.drop (j + 1)) (leB keys) = List.merge a b (leB keys) → Ev (fun k => valiseref4_merge.l0 k keys a b (out ++ [rd b j]) (i : Int) (wrap64 ((j : Int) + 1))) (List.merge a b (leB keys)) := by
        intro h1 h2
        rw [w64 (x := (j : Int) + 1) (by omega) (by omega)]
        exact ih i (j + 1) _ (by omega) hi (by omega) (by simp; omega) (by rw [← h2]; simp)
      by_cases hjb : j = b.length
      · have h1 : i < a.length := by omega
        refine pos (by omega) (pos (by omega) (pos (by omega) (pos (by omega) (takeA h1 ?_))))
        rw [← he, drop_rd a i h1, hjb, List.drop_length, List.merge_right, List.merge_right]
      · have h2 : j < b.length := by omega
        refine neg (by omega) ?_
        by_cases h1 : i < a.length
        · have ea := ha (rd a i) (by rw [rd_nat a i h1]; exact List.getElem_mem _)
          have eb := hb (rd b j) (by rw [rd_nat b j h2]; exact List.getElem_mem _)
          have ne : rd a i ≠ rd b j := hab _ (by rw [rd_nat a i h1]; exact List.getElem_mem _) _ (by rw [rd_nat b j h2]; exact List.getElem_mem _)
          refine pos (by omega) (pos (by omega) (pos (by omega) (pos (by omega) (bnd (ahead_f keys _ _ ea eb ne) ?_))))
          by_cases hc : leB keys (rd a i) (rd b j) = true
          · refine pos hc (pos (by omega) (takeA h1 ?_))
            rw [← he, drop_rd a i h1, drop_rd b j h2, List.cons_merge_cons_pos _ _ _ hc]
          · refine neg hc (pos (by omega) (takeB h2 ?_))
            rw [← he, drop_rd a i h1, drop_rd b j h2, List.cons_merge_cons_neg _ _ _ hc]
        · refine neg (by omega) (pos (by omega) (pos (by omega) (pos (by omega) (takeB h2 ?_))))
          rw [← he, drop_rd b j h2, List.drop_eq_nil_of_le (by omega : a.length ≤ i), List.nil_merge, List.nil_merge]
  exact key _ 0 0 [] rfl (by omega) (by omega) rfl rfl
/-- The places from lo up to hi (without). -/
def seg (lo n : Nat) : List Int := (List.range' lo n).map fun (i : Nat) => (i : Int)
theorem seg_split (lo m n : Nat) : seg lo (m + n) = seg lo m ++ seg (lo + m) n := by
  unfold seg
  rw [← List.map_append, ← List.range'_append_1]
theorem seg_mem {lo n : Nat} {x : Int} (h : x ∈ seg lo n) : (lo : Int) ≤ x ∧ x < lo + n := by
  unfold seg at h
  obtain ⟨i, hi, rfl⟩ := List.mem_map.1 h
  rw [List.mem_range'_1] at hi
  omega
theorem between_ev (keys : List Int) (hl : keys.length ≤ 1048576) : ∀ (d n lo : Nat), n ≤ d → lo + n ≤ keys.length → ∃ r, Ev (fun k => valiseref4_between.f k keys (lo : Int) ((lo + n : Nat) : Int)) r ∧ r.Perm (seg lo n) ∧ r.Pairwise (fun a b => leB keys a b = true) := by
  intro d
  induction d with
  | zero =>
    intro n lo hn h
    obtain rfl : n = 0 := by omega
    refine ⟨[], Ev.step (fun k => valiseref4_between.f.eq_2 ..) (pos (by rw [w64 (by omega) (by omega)]; omega) (done rfl)), List.Perm.refl _, List.Pairwise.nil⟩
  | succ d ih =>
    intro n lo hn h
    have e0 : wrap64 (((lo + n : Nat) : Int) - lo) = (n : Int) := by rw [w64 (by omega) (by omega)]; omega
    by_cases h0 : n = 0
    · subst h0
      refine ⟨[], Ev.step (fun k => valiseref4_between.f.eq_2 ..) (pos (by rw [e0]; omega) (done rfl)), List.Perm.refl _, List.Pairwise.nil⟩
    · by_cases h1 : n = 1
      · subst h1
        refine ⟨[(lo : Int)], Ev.step (fun k => valiseref4_between.f.eq_2 ..) (neg (by rw [e0]; omega) (pos (by rw [e0]; rfl) (done rfl))), by simp [seg], List.pairwise_singleton _ _⟩
      · obtain ⟨ra, ea, pa, sa⟩ := ih (n / 2) lo (by omega) (by omega)
        obtain ⟨rb, eb, pb, sb⟩ := ih (n - n / 2) (lo + n / 2) (by omega) (by omega)
        have em : wrap64 ((lo : Int) + wrap64 (Int.tdiv (wrap64 (((lo + n : Nat) : Int) - lo)) 2)) = ((lo + n / 2 : Nat) : Int) := by
          rw [e0, Int.tdiv_eq_ediv_of_nonneg (by omega), w64 (x := (n : Int) / 2) (by omega) (by omega), w64 (by omega) (by omega)]
          omega
        have eh : lo + n / 2 + (n - n / 2) = lo + n := by omega
        rw [eh] at eb
        have ma : ∀ x ∈ ra, (lo : Int) ≤ x ∧ x < lo + (n / 2 : Nat) := fun x hx => seg_mem (pa.mem_iff.1 hx)
        have mb : ∀ x ∈ rb, ((lo + n / 2 : Nat) : Int) ≤ x ∧ x < ((lo + n / 2 : Nat) : Int) + (n - n / 2 : Nat) := fun x hx => seg_mem (pb.mem_iff.1 hx)
        have la : ra.length = n / 2 := by rw [pa.length_eq]; simp [seg]
        have lb : rb.length = n - n / 2 := by rw [pb.length_eq]; simp [seg]
        refine ⟨List.merge ra rb (leB keys), Ev.step (fun k => valiseref4_between.f.eq_2 ..) (neg (by rw [e0]; omega) (neg (by rw [e0]; omega) ?_)), ?_, List.pairwise_merge (leB_trans keys) (leB_total keys) ra rb sa sb⟩
        · rw [em]
          refine Ev.bind ea (Ev.bind eb (Ev.bind (merge_ev keys ra rb (fun x hx => ?_) (fun x hx => ?_) (fun x hx y hy => ?_) (by omega)) (done rfl)))
          · have := ma x hx; omega
          · have := mb x hx; omega
          · have := ma x hx; have := mb y hy; omega
        · refine List.Perm.trans (l₂ := ra ++ rb) (by first | exact List.merge_perm_append | exact List.merge_perm_append _) ?_
          have : seg lo n = seg lo (n / 2) ++ seg (lo + n / 2) (n - n / 2) := by
            rw [← seg_split]
            congr 1
            omega
          rw [this]
          exact pa.append pb
theorem rorder_ev (keys : List Int) (hl : keys.length ≤ 1048576) : Ev (fun k => valiseref4_Order.f k keys) (orderV keys) := by
  unfold valiseref4_Order.f
  obtain ⟨r, er, pr, sr⟩ := between_ev keys hl keys.length keys.length 0 (Nat.le_refl _) (by omega)
  have hp : r.Perm (places keys.length) := by
    refine pr.trans ?_
    unfold seg places
    rw [List.range_eq_range']
  have := (ord_of_le hp sr).eq (orderV_ord keys)
  subst this
  rw [Nat.zero_add] at er
  exact Ev.bind er (done rfl)
end Go.Proofs.Ytekcpcipbccodaa.PO
