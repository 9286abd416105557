/- RecordFields: the pure statement, proved: fields that are joined are split as they were; what splits is what joins. -/
import Derived.Test.YtkmnhlhpmfkloaaPRA
namespace Go.Proofs.Ytkmnhlhpmfkloaa.PR.Pure
open Go.RowKit Go.Proofs.Ytkmnhlhpmfkloaa Go.Proofs.YtkmnhlhpmfkloaaW.PrintWords Go.Proofs.YtkmnhlhpmfkloaaW.PrintLast Go.Proofs.YtkmnhlhpmfkloaaW.PrintMore Go.Proofs.Ytkmnhlhpmfkloaa.Pur Go.Proofs.Ytkmnhlhpmfkloaa.PR Go.Proofs.Ytkmnhlhpmfkloaa.Fld

theorem allB_app (a b : List (Int × ByteArray)) : allB (a ++ b) = allB a ++ allB b := by unfold allB; rw [List.flatMap_append]
theorem fields_j2 (s : ByteArray) : Ev (fun k => valiselaw12_RecordFields.j2 k s false) true := by
  refine Ev.step (fun k => valiselaw12_RecordFields.j2.eq_2 ..) (neg (by simp) (bnd (split_f s) ?_))
  by_cases h : (rsplitF s).2 = 0
  · refine pos h (bnd (join_f _) ?_)
    have hb : ¬ (65535 : Int) < s.size := by
      intro hb
      unfold rsplitF at h
      rw [if_pos hb] at h
      cases h
    have hr : rsplitGo (bytesOf s) (s.size + 1) 0 [] = ((rsplitF s).1, 0) := by
      unfold rsplitF at h ⊢
      rw [if_neg hb] at h ⊢
      exact Prod.ext rfl h
    obtain ⟨r1, r2⟩ := join_split (bytesOf s) (bytes_mem s) (s.size + 1) 0 [] _ (Nat.zero_le _) (by rw [Fld.bytesOf_length]; omega) hr (by simp)
    have hall : allB (rsplitF s).1 = bytesOf s := by rw [r2]; simp [allB]
    have hj : joinA ((rsplitF s).1.map rp) = (s, 0) := by
      unfold joinA
      rw [pr_rp, joinS_fit _ [] r1 (by rw [List.nil_append, hall, Fld.bytesOf_length]; omega), List.nil_append, hall, str_bytesOf]
    rw [hj]
    exact pos rfl (done (by simp))
  · refine neg h ?_
    have hk : ∀ (l : List Int) (k a : Nat) (acc : List (Int × ByteArray)), (rsplitGo l k a acc).2 ≠ 0 → rsplitGo l k a acc = ([], 122) := by
      intro l k
      induction k with
      | zero => intro a acc h; simp [rsplitGo] at h
      | succ k ih =>
        intro a acc h
        unfold rsplitGo at h ⊢
        split
        · split
          · rfl
          · simp only
            split
            · rfl
            · refine ih _ _ ?_
              rename_i h1 h2 h3
              rw [if_pos h1, if_neg h2] at h
              simp only at h
              rw [if_neg h3] at h
              exact h
        · rename_i h1
          rw [if_neg h1] at h
          simp at h
    by_cases hb : (65535 : Int) < s.size
    · have hr : rsplitF s = ([], 124) := if_pos hb
      rw [hr]
      exact pos (by simp) (neg (by simp) (done (by simp)))
    · have hr : rsplitF s = ([], 122) := by
        unfold rsplitF at h ⊢
        rw [if_neg hb] at h ⊢
        exact hk _ _ _ _ h
      rw [hr]
      exact pos (by simp) (pos (by simp) (done rfl))

theorem RecordFields : valiselaw12_RecordFields.Pure := by
  intro l0 l1 s hl0 hl1 hs hbulk
  have hk0 : ∀ l : List Ext, l.length ≤ (l.map (fun x => bkS49 x)).sum := by
    intro l
    induction l with
    | nil => simp
    | cons x l ih =>
      have h : 1 ≤ bkS49 x := by unfold bkS49; omega
      rw [List.length_cons, List.map_cons, List.sum_cons]
      omega
  have hn0 : l0.length ≤ 1048576 := by have := hk0 l0; omega
  have hn1 : l1.length ≤ 1048576 := by have := hk0 l1; omega
  refine Ev.rounds ?_
  unfold valiselaw12_RecordFields.f
  have hget : ∀ i : Nat, i < (l0 ++ l1).length → (l0 ++ l1).take (i + 1) = (l0 ++ l1).take i ++ [rd_T49 (l0 ++ l1) i] := fun i hi => take_rdX _ i hi
  have hrd0 : ∀ i : Nat, i < l0.length → rd_T49 (l0 ++ l1) (i : Int) = rd_T49 l0 (i : Int) := fun i hi => by
    rw [rdX_nat _ _ (by rw [List.length_append]; omega), rdX_nat _ _ hi, List.getElem_append_left hi]
  have hrd1 : ∀ i : Nat, l0.length ≤ i → i < l0.length + l1.length → rd_T49 (l0 ++ l1) (i : Int) = rd_T49 l1 ((i : Int) - (l0.length : Int)) := fun i h1 h2 => by
    rw [show (i : Int) - (l0.length : Int) = ((i - l0.length : Nat) : Int) by omega, rdX_nat _ _ (by rw [List.length_append]; omega), rdX_nat _ _ (by omega), List.getElem_append_right h1]
  have key : ∀ (d i : Nat) (sz : Int), i + d = l0.length + l1.length → sz = ((allB (((l0 ++ l1).take i).map pr)).length : Int) → sz ≤ 65539 * i → (∀ f ∈ ((l0 ++ l1).take i).map pr, fitF f) →
      Ev (fun k => valiselaw12_RecordFields.l0 k l0 l1 s sz ((l0 ++ l1).take i) (i : Int)) true := by
    intro d
    induction d with
    | zero =>
      intro i sz hd hsz hsb hfit
      have hta : (l0 ++ l1).take i = l0 ++ l1 := List.take_of_length_le (by rw [List.length_append]; omega)
      rw [hta] at hsz hfit ⊢
      refine Ev.step (fun k => valiselaw12_RecordFields.l0.eq_2 ..) ?_
      rw [w64 (x := (l0.length : Int) + l1.length) (by omega) (by omega)]
      refine neg (by omega) ?_
      by_cases hbig : sz > 65535
      · exact pos hbig (done rfl)
      · refine neg hbig (bnd (join_f _) (bnd (join_f _) ?_))
        rw [List.map_append] at hsz hfit
        rw [allB_app, List.length_append] at hsz
        have f0 : ∀ f ∈ l0.map pr, fitF f := fun f hf => hfit f (List.mem_append_left _ hf)
        have f1 : ∀ f ∈ l1.map pr, fitF f := fun f hf => hfit f (List.mem_append_right _ hf)
        have j0 : joinA l0 = (strOfNums (allB (l0.map pr)), 0) := by
          unfold joinA
          rw [joinS_fit _ [] f0 (by rw [List.nil_append]; omega), List.nil_append]
        have j1 : joinA l1 = (strOfNums (allB (l1.map pr)), 0) := by
          unfold joinA
          rw [joinS_fit _ [] f1 (by rw [List.nil_append]; omega), List.nil_append]
        rw [j0, j1]
        simp only [str_size]
        rw [w64 (x := ((allB (l0.map pr)).length : Int) + (allB (l1.map pr)).length) (by omega) (by omega)]
        refine pos trivial (pos trivial (Ev.step (fun k => valiselaw12_RecordFields.j1.eq_2 ..) (neg (by simp; omega) (pos (by rw [str_size, str_size]; omega) ?_))))
        rw [← str_append, ← allB_app, ← List.map_append]
        refine bnd (split_f _) ?_
        have hsp : rsplitF (strOfNums (allB ((l0 ++ l1).map pr))) = ((l0 ++ l1).map pr, 0) := by
          have hlen : (allB ((l0 ++ l1).map pr)).length ≤ 65535 := by rw [List.map_append, allB_app, List.length_append]; omega
          unfold rsplitF
          rw [if_neg (by rw [str_size]; omega), bytesOf_str _ (allB_mem _), str_size]
          have h := split_join ((l0 ++ l1).map pr) [] ((allB ((l0 ++ l1).map pr)).length + 1) [] (by rw [List.map_append]; exact hfit) (by simp) (by omega)
          simpa using h
        rw [hsp]
        refine pos rfl ?_
        rw [rp_pr]
        refine Ev.bind (alike_ev _ _ (by rw [List.length_append]; omega)) ?_
        simp only [decide_true, Bool.not_true]
        exact fields_j2 s
    | succ d ih =>
      intro i sz hd hsz hsb hfit
      have hlt : i < (l0 ++ l1).length := by rw [List.length_append]; omega
      have htl : ((l0 ++ l1).take i).length = i := by rw [List.length_take]; omega
      obtain ⟨x, hx⟩ : ∃ x, rd_T49 (l0 ++ l1) (i : Int) = x := ⟨_, rfl⟩
      have hnext : ∀ (hf : fitF (pr x)), Ev (fun k => valiselaw12_RecordFields.l0 k l0 l1 s (wrap64 (wrap64 (sz + 4) + (x.f1.size : Int))) ((l0 ++ l1).take i ++ [(⟨x.f0, x.f1⟩ : Ext)]) (wrap64 ((i : Int) + 1))) true := by
        intro hf
        have hf' := hf
        unfold fitF pr at hf'
        simp only at hf'
        have hmap : ((l0 ++ l1).take (i + 1)).map pr = ((l0 ++ l1).take i).map pr ++ [pr x] := by rw [hget i hlt, hx, List.map_append]; rfl
        have hlen : (allB (((l0 ++ l1).take (i + 1)).map pr)).length = (allB (((l0 ++ l1).take i).map pr)).length + (4 + x.f1.size) := by
          rw [hmap, allB_app, List.length_append]
          have : allB [pr x] = fldB (pr x) := by simp [allB]
          rw [this, fldB_len]
          rfl
        have e1 : wrap64 (sz + 4) = sz + 4 := w64 (by omega) (by omega)
        have e2 : wrap64 (sz + 4 + (x.f1.size : Int)) = sz + 4 + x.f1.size := w64 (by omega) (by omega)
        rw [e1, e2, w64 (x := (i : Int) + 1) (by omega) (by omega)]
        have hacc : (l0 ++ l1).take i ++ [(⟨x.f0, x.f1⟩ : Ext)] = (l0 ++ l1).take (i + 1) := by rw [hget i hlt, hx]
        rw [hacc]
        refine ih (i + 1) _ (by omega) (by rw [hlen]; omega) (by omega) ?_
        rw [hmap]
        intro f hf2
        rcases List.mem_append.1 hf2 with h | h
        · exact hfit f h
        · rw [List.mem_singleton.1 h]; exact hf
      refine Ev.step (fun k => valiselaw12_RecordFields.l0.eq_2 ..) ?_
      rw [w64 (x := (l0.length : Int) + l1.length) (by omega) (by omega)]
      refine pos (by omega) ?_
      by_cases h0 : i < l0.length
      · have hx0 : rd_T49 l0 (i : Int) = x := by rw [← hrd0 i h0, hx]
        refine pos (by omega) (pos (by omega) ?_)
        simp only [hx0]
        refine bnd (is16_l _) ?_
        by_cases h1 : 0 ≤ x.f0 ∧ x.f0 ≤ 65535
        · refine pos (by simpa using h1) ?_
          by_cases h2 : (x.f1.size : Int) > 65535
          · exact pos h2 (done rfl)
          · exact neg h2 (pos (by rw [htl]; omega) (hnext ⟨h1.1, h1.2, by show (x.f1.size : Int) ≤ 65535; omega⟩))
        · exact neg (by simpa using h1) (done rfl)
      · have hx1 : rd_T49 l1 ((i : Int) - (l0.length : Int)) = x := by rw [← hrd1 i (by omega) (by omega), hx]
        refine neg (by omega) ?_
        rw [w64 (x := (i : Int) - (l0.length : Int)) (by omega) (by omega)]
        refine pos (by omega) (pos (by omega) ?_)
        simp only [hx1]
        refine bnd (is16_l _) ?_
        by_cases h1 : 0 ≤ x.f0 ∧ x.f0 ≤ 65535
        · refine pos (by simpa using h1) ?_
          by_cases h2 : (x.f1.size : Int) > 65535
          · exact pos h2 (done rfl)
          · exact neg h2 (pos (by rw [htl]; omega) (hnext ⟨h1.1, h1.2, by show (x.f1.size : Int) ≤ 65535; omega⟩))
        · exact neg (by simpa using h1) (done rfl)
  have h := key (l0.length + l1.length) 0 0 (by omega) (by simp [allB]) (by omega) (by simp)
  simpa using h
end Go.Proofs.Ytkmnhlhpmfkloaa.PR.Pure
