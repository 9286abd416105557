/- RecordEnds: the pure statement, proved: every PutEnd and GetEnd is the document's. -/
import Derived.Test.YtkmnhlhpmfkloaaPEB
namespace Go.Proofs.Ytkmnhlhpmfkloaa.PE.Pure
open Go.RowKit Go.Proofs.Ytkmnhlhpmfkloaa Go.Proofs.YtkmnhlhpmfkloaaW.PrintWords Go.Proofs.YtkmnhlhpmfkloaaW.PrintLast Go.Proofs.YtkmnhlhpmfkloaaW.PrintMore Go.Proofs.Ytkmnhlhpmfkloaa.Pur Go.Proofs.Ytkmnhlhpmfkloaa.PE Go.Proofs.Ytkmnhlhpmfkloaa.Fld
set_option linter.unusedVariables false

theorem rputE_bad (a0 a1 a2 a3 a4 a5 : Int) (s : ByteArray) : Ev (fun k => valiseref12_PutEnd.j0 k true a0 a1 a2 a3 a4 a5 s) ([], 124) := Ev.step (fun k => valiseref12_PutEnd.j0.eq_2 ..) (pos rfl (done rfl))
theorem rputE_ev (a0 a1 a2 a3 a4 a5 : Int) (s : ByteArray) : Ev (fun k => valiseref12_PutEnd.f k a0 a1 a2 a3 a4 a5 s) (endB a0 a1 a2 a3 a4 a5 s).ans := by
  unfold valiseref12_PutEnd.f
  refine bnd (is16_r _) (bnd (is16_r _) (bnd (is16_r _) (bnd (is16_r _) (bnd (is32_r _) (bnd (is32_r _) ?_)))))
  by_cases h : FitE a0 a1 a2 a3 a4 a5 s
  · rw [putE a0 a1 a2 a3 a4 a5 s h]
    obtain ⟨h0, h1, h2, h3, h4, h5, hs⟩ := h
    refine pos (decide_eq_true h0) (pos (decide_eq_true h1) (pos (decide_eq_true h2) (pos (decide_eq_true h3) (pos (decide_eq_true h4) (pos (decide_eq_true h5) ?_)))))
    refine Ev.step (fun k => valiseref12_PutEnd.j0.eq_2 ..) (neg (by simp; omega) ?_)
    refine Ev.bind (put_ev _ _ 4 (by omega) (by omega) (by simp) (by omega)) ?_
    refine Ev.bind (put_ev _ _ 2 (by omega) (by omega) (by simp [le_length]) (by omega)) ?_
    refine Ev.bind (put_ev _ _ 2 (by omega) (by omega) (by simp [le_length]) (by omega)) ?_
    refine Ev.bind (put_ev _ _ 2 (by omega) (by omega) (by simp [le_length]) (by omega)) ?_
    refine Ev.bind (put_ev _ _ 2 (by omega) (by omega) (by simp [le_length]) (by omega)) ?_
    refine Ev.bind (put_ev _ _ 4 (by omega) (by omega) (by simp [le_length]) (by omega)) ?_
    refine Ev.bind (put_ev _ _ 4 (by omega) (by omega) (by simp [le_length]) (by omega)) ?_
    refine Ev.bind (put_ev _ _ 2 (by omega) (by omega) (by simp [le_length]) (by omega)) ?_
    refine Ev.bind (text_ev _ _ (by simp [le_length]; omega)) (done ?_)
    simp [encE, hdrE]
  · rw [putE_no a0 a1 a2 a3 a4 a5 s h]
    by_cases h0 : 0 ≤ a0 ∧ a0 ≤ 65535
    · refine pos (decide_eq_true h0) ?_
      by_cases h1 : 0 ≤ a1 ∧ a1 ≤ 65535
      · refine pos (decide_eq_true h1) ?_
        by_cases h2 : 0 ≤ a2 ∧ a2 ≤ 65535
        · refine pos (decide_eq_true h2) ?_
          by_cases h3 : 0 ≤ a3 ∧ a3 ≤ 65535
          · refine pos (decide_eq_true h3) ?_
            by_cases h4 : 0 ≤ a4 ∧ a4 ≤ 4294967295
            · refine pos (decide_eq_true h4) ?_
              by_cases h5 : 0 ≤ a5 ∧ a5 ≤ 4294967295
              · refine pos (decide_eq_true h5) ?_
                have hs : ¬ s.size ≤ 65535 := fun hs => h ⟨h0, h1, h2, h3, h4, h5, hs⟩
                exact Ev.step (fun k => valiseref12_PutEnd.j0.eq_2 ..) (pos (decide_eq_true (by omega)) (done rfl))
              · exact neg (by simpa using h5) (rputE_bad ..)
            · exact neg (by simpa using h4) (rputE_bad ..)
          · exact neg (by simpa using h3) (rputE_bad ..)
        · exact neg (by simpa using h2) (rputE_bad ..)
      · exact neg (by simpa using h1) (rputE_bad ..)
    · exact neg (by simpa using h0) (rputE_bad ..)
theorem endB_len (a0 a1 a2 a3 a4 a5 : Int) (s : ByteArray) : (endB a0 a1 a2 a3 a4 a5 s).ans.1.length ≤ 140737488355328 := by
  by_cases h : FitE a0 a1 a2 a3 a4 a5 s
  · rw [putE a0 a1 a2 a3 a4 a5 s h]
    have := h.hs
    simp only [encE_len]
    omega
  · rw [putE_no a0 a1 a2 a3 a4 a5 s h]
    simp
theorem rgetE_ev (l : List Int) (a : Int) (hy : By l) (hl : l.length ≤ 140737488355320) (h1 : -9223372036854775808 ≤ a) (h2 : a ≤ 9223372036854775807) : Ev (fun k => valiseref12_GetEnd.f k l a) (getEndF l a) := by
  unfold valiseref12_GetEnd.f
  refine Ev.bind (begins_ev l a 22 101010256 hy (by omega) (by omega) (by omega) h1 h2) ?_
  unfold getEndF
  by_cases hE : fieldsE l a 22 101010256 = 0
  · obtain ⟨g1, g2⟩ := fields_ok_le hE
    refine pos hE ?_
    rw [if_pos hE]
    obtain ⟨b, rfl⟩ : ∃ b : Nat, a = (b : Int) := ⟨a.toNat, by omega⟩
    have hb : b + 22 ≤ l.length := by omega
    have q : ∀ {k n : Nat}, k + n ≤ 22 → nm ((CS.mk ((l.take (b + 22)).drop b) k 0).next n) = nat l (b + k) n := fun h => (cur_at hb h).1
    have p : ∀ {k n : Nat}, k + n ≤ 22 → (CS.mk ((l.take (b + 22)).drop b) k 0).adv n = ⟨(l.take (b + 22)).drop b, k + n, 0⟩ := fun h => (cur_at hb h).2
    unfold fieldsC
    rw [Int.toNat_natCast, p (k := 4) (n := 2) (by omega), p (k := 4 + 2) (n := 2) (by omega), p (k := 4 + 2 + 2) (n := 2) (by omega), p (k := 4 + 2 + 2 + 2) (n := 2) (by omega), p (k := 4 + 2 + 2 + 2 + 2) (n := 4) (by omega), p (k := 4 + 2 + 2 + 2 + 2 + 4) (n := 4) (by omega)]
    rw [q (k := 4) (n := 2) (by omega), q (k := 4 + 2) (n := 2) (by omega), q (k := 4 + 2 + 2) (n := 2) (by omega), q (k := 4 + 2 + 2 + 2) (n := 2) (by omega), q (k := 4 + 2 + 2 + 2 + 2) (n := 4) (by omega), q (k := 4 + 2 + 2 + 2 + 2 + 4) (n := 4) (by omega), q (k := 4 + 2 + 2 + 2 + 2 + 4 + 4) (n := 2) (by omega)]
    refine Ev.bind (number_at l b 4 2 hy (by omega) (by omega) (by omega)) ?_
    refine Ev.bind (number_at l b 6 2 hy (by omega) (by omega) (by omega)) ?_
    refine Ev.bind (number_at l b 8 2 hy (by omega) (by omega) (by omega)) ?_
    refine Ev.bind (number_at l b 10 2 hy (by omega) (by omega) (by omega)) ?_
    refine Ev.bind (number_at l b 12 4 hy (by omega) (by omega) (by omega)) ?_
    refine Ev.bind (number_at l b 16 4 hy (by omega) (by omega) (by omega)) ?_
    refine Ev.bind (number_at l b 20 2 hy (by omega) (by omega) (by omega)) ?_
    have hn := nat_range2 hy (b + 20)
    obtain ⟨n, hnn⟩ : ∃ n : Nat, nat l (b + 20) 2 = (n : Int) := ⟨_, (Int.toNat_of_nonneg hn.1).symm⟩
    rw [show b + (4 + 2 + 2 + 2 + 2 + 4 + 4) = b + 20 by omega, hnn, w64 (x := (l.length : Int) - b) (by omega) (by omega), w64 (x := (l.length : Int) - b - 22) (by omega) (by omega), show ((b : Int) + 22).toNat = b + 22 by omega]
    by_cases c : (l.length : Int) - b - 22 < n
    · refine pos c (done ?_)
      rw [textsF_no (by omega)]
    · refine neg c ?_
      rw [w64 (x := (b : Int) + 22) (by omega) (by omega), show (b : Int) + 22 = ((b + 22 : Nat) : Int) by omega]
      refine bnd (piece_f (by omega) (by omega)) (done ?_)
      rw [textsF_one (by omega), w64 (by omega) (by omega)]
      simp only [Prod.mk.injEq, Nat.add_assoc, Nat.reduceAdd, true_and, and_true]
      omega
  · refine neg hE (done ?_)
    rw [if_neg hE]
theorem RecordEnds : valiselaw12_RecordEnds.Pure := by
  intro a0 l1 a2 h0 h1 h2
  have hy : By l1 := fun x hx => by have := u8b (h1.2 x hx); omega
  have hl : l1.length ≤ 140737488355320 := by have := h1.1; omega
  have ha := i64b h2
  obtain ⟨a0, a1, a2', a3, a4, a5, s⟩ := a0
  refine Ev.rounds ?_
  unfold valiselaw12_RecordEnds.f
  refine bnd (a := (endB a0 a1 a2' a3 a4 a5 s).ans) rfl ?_
  refine Ev.bind (rputE_ev a0 a1 a2' a3 a4 a5 s) ?_
  refine Ev.bind (same_ev _ (endB_len ..)) (pos rfl (bnd (num_f _) ?_))
  refine Ev.step (fun k => valiselaw12_RecordEnds.j0.eq_2 ..) (neg (by simp) ?_)
  refine bnd (lent_f l1 hl) ?_
  refine bnd (a := getEndF l1 a2) (by unfold record_GetEnd.f; rw [if_pos (okB_mk hy (by omega))]) ?_
  refine Ev.bind (rgetE_ev l1 a2 hy hl ha.1 ha.2) ?_
  refine pos (by simp) (pos rfl (bnd (num_f _) (pos rfl (Ev.bind (still_ev l1 hl) (done rfl)))))
end Go.Proofs.Ytkmnhlhpmfkloaa.PE.Pure
