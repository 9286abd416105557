/- RecordLocals: the pure statement, proved: every PutLocal and GetLocal is the document's. -/
import Derived.Test.YtkmnhlhpmfkloaaPLB
namespace Go.Proofs.Ytkmnhlhpmfkloaa.PL.Pure
open Go.RowKit Go.Proofs.Ytkmnhlhpmfkloaa Go.Proofs.YtkmnhlhpmfkloaaW.PrintWords Go.Proofs.YtkmnhlhpmfkloaaW.PrintLast Go.Proofs.YtkmnhlhpmfkloaaW.PrintMore Go.Proofs.Ytkmnhlhpmfkloaa.Pur Go.Proofs.Ytkmnhlhpmfkloaa.PL Go.Proofs.Ytkmnhlhpmfkloaa.Fld
set_option linter.unusedVariables false

theorem localFits_f (a0 a1 a2 a3 a4 a5 a6 a7 : Int) (a8 a9 : ByteArray) (h5 : 0 ≤ a5 ∧ a5 < 4294967296) : ∃ r, valiseref12_localFits.f a0 a1 a2 a3 a4 a5 a6 a7 a8 a9 = some r ∧ (r = true ↔ FitL a0 a1 a2 a3 a4 a5 a6 a7 a8 a9) := by
  unfold valiseref12_localFits.f
  rw [is16_r, is16_r, is16_r, is16_r, is16_r, is32_r, is32_r]
  simp only [Option.bind_some]
  by_cases h0 : 0 ≤ a0 ∧ a0 ≤ 65535
  · rw [if_pos (decide_eq_true h0)]
    by_cases h1 : 0 ≤ a1 ∧ a1 ≤ 65535
    · rw [if_pos (decide_eq_true h1)]
      by_cases h2 : 0 ≤ a2 ∧ a2 ≤ 65535
      · rw [if_pos (decide_eq_true h2)]
        by_cases h3 : 0 ≤ a3 ∧ a3 ≤ 65535
        · rw [if_pos (decide_eq_true h3)]
          by_cases h4 : 0 ≤ a4 ∧ a4 ≤ 65535
          · rw [if_pos (decide_eq_true h4)]
            by_cases h6 : 0 ≤ a6 ∧ a6 ≤ 4294967295
            · rw [if_pos (decide_eq_true h6)]
              by_cases h7 : 0 ≤ a7 ∧ a7 ≤ 4294967295
              · rw [if_pos (decide_eq_true h7)]
                by_cases h8 : (a8.size : Int) ≤ 65535
                · rw [if_pos h8]
                  refine ⟨_, rfl, ?_⟩
                  rw [decide_eq_true_iff]
                  exact ⟨fun h9 => ⟨by omega, by omega, by omega, by omega, by omega, h5, by omega, by omega, by omega, by omega⟩, fun h => by have := h.ha9; omega⟩
                · rw [if_neg h8]; exact ⟨_, rfl, by simp, fun h => absurd h.ha8 (by omega)⟩
              · rw [if_neg (by simpa using h7)]; exact ⟨_, rfl, by simp, fun h => absurd h.ha7 (by omega)⟩
            · rw [if_neg (by simpa using h6)]; exact ⟨_, rfl, by simp, fun h => absurd h.ha6 (by omega)⟩
          · rw [if_neg (by simpa using h4)]; exact ⟨_, rfl, by simp, fun h => absurd h.ha4 (by omega)⟩
        · rw [if_neg (by simpa using h3)]; exact ⟨_, rfl, by simp, fun h => absurd h.ha3 (by omega)⟩
      · rw [if_neg (by simpa using h2)]; exact ⟨_, rfl, by simp, fun h => absurd h.ha2 (by omega)⟩
    · rw [if_neg (by simpa using h1)]; exact ⟨_, rfl, by simp, fun h => absurd h.ha1 (by omega)⟩
  · rw [if_neg (by simpa using h0)]; exact ⟨_, rfl, by simp, fun h => absurd h.ha0 (by omega)⟩
theorem shared_ev (l : List Int) (a0 a1 a2 a3 a4 a5 a6 a7 : Int) (a8 a9 : ByteArray) (h0 : 0 ≤ a0 ∧ a0 < 65536) (h1 : 0 ≤ a1 ∧ a1 < 65536) (h2 : 0 ≤ a2 ∧ a2 < 65536) (h3 : 0 ≤ a3 ∧ a3 < 65536) (h4 : 0 ≤ a4 ∧ a4 < 65536) (h5 : 0 ≤ a5 ∧ a5 < 4294967296) (h6 : 0 ≤ a6 ∧ a6 < 4294967296) (h7 : 0 ≤ a7 ∧ a7 < 4294967296) (hl : l.length ≤ 1000000) :
    Ev (fun k => valiseref12_shared.f k l a0 a1 a2 a3 a4 a5 a6 a7 a8 a9) (l ++ le 2 a0 ++ le 2 a1 ++ le 2 a2 ++ le 2 a3 ++ le 2 a4 ++ le 4 a5 ++ le 4 a6 ++ le 4 a7) := by
  unfold valiseref12_shared.f
  refine Ev.bind (put_ev _ _ 2 (by omega) (by omega) (by omega) (by omega)) ?_
  refine Ev.bind (put_ev _ _ 2 (by omega) (by omega) (by simp [le_length]; omega) (by omega)) ?_
  refine Ev.bind (put_ev _ _ 2 (by omega) (by omega) (by simp [le_length]; omega) (by omega)) ?_
  refine Ev.bind (put_ev _ _ 2 (by omega) (by omega) (by simp [le_length]; omega) (by omega)) ?_
  refine Ev.bind (put_ev _ _ 2 (by omega) (by omega) (by simp [le_length]; omega) (by omega)) ?_
  rw [w64 (x := a5) (by omega) (by omega)]
  refine Ev.bind (put_ev _ _ 4 (by omega) (by omega) (by simp [le_length]; omega) (by omega)) ?_
  refine Ev.bind (put_ev _ _ 4 (by omega) (by omega) (by simp [le_length]; omega) (by omega)) ?_
  refine Ev.bind (put_ev _ _ 4 (by omega) (by omega) (by simp [le_length]; omega) (by omega)) ?_
  exact done rfl
theorem rputL_ev (a0 a1 a2 a3 a4 a5 a6 a7 : Int) (a8 a9 : ByteArray) (h5 : 0 ≤ a5 ∧ a5 < 4294967296) : Ev (fun k => valiseref12_PutLocal.f k a0 a1 a2 a3 a4 a5 a6 a7 a8 a9) (localB a0 a1 a2 a3 a4 a5 a6 a7 a8 a9).ans := by
  unfold valiseref12_PutLocal.f
  obtain ⟨r, hr, hf⟩ := localFits_f a0 a1 a2 a3 a4 a5 a6 a7 a8 a9 h5
  refine bnd hr ?_
  by_cases h : FitL a0 a1 a2 a3 a4 a5 a6 a7 a8 a9
  · rw [putL _ _ _ _ _ _ _ _ _ _ h]
    obtain ⟨h0, h1, h2, h3, h4, h5, h6, h7, h8, h9⟩ := h
    refine pos (hf.2 ⟨h0, h1, h2, h3, h4, h5, h6, h7, h8, h9⟩) ?_
    refine Ev.bind (put_ev _ _ 4 (by omega) (by omega) (by simp) (by omega)) ?_
    refine Ev.bind (shared_ev _ _ _ _ _ _ _ _ _ a8 a9 h0 h1 h2 h3 h4 h5 h6 h7 (by simp [le_length])) ?_
    refine Ev.bind (put_ev _ _ 2 (by omega) (by omega) (by simp [le_length]) (by omega)) ?_
    refine Ev.bind (put_ev _ _ 2 (by omega) (by omega) (by simp [le_length]) (by omega)) ?_
    refine Ev.bind (text_ev _ _ (by simp [le_length]; omega)) ?_
    refine Ev.bind (text_ev _ _ (by simp [le_length, Fld.bytesOf_length]; omega)) (done ?_)
    simp [encL, hdrL]
  · rw [putL_no _ _ _ _ _ _ _ _ _ _ h5 h]
    exact neg (fun h2 => h (hf.1 h2)) (done rfl)
theorem localB_len (a0 a1 a2 a3 a4 a5 a6 a7 : Int) (a8 a9 : ByteArray) (h5 : 0 ≤ a5 ∧ a5 < 4294967296) : (localB a0 a1 a2 a3 a4 a5 a6 a7 a8 a9).ans.1.length ≤ 140737488355328 := by
  by_cases h : FitL a0 a1 a2 a3 a4 a5 a6 a7 a8 a9
  · rw [putL _ _ _ _ _ _ _ _ _ _ h]
    have := h.ha8
    have := h.ha9
    simp only [encL_len]
    omega
  · rw [putL_no _ _ _ _ _ _ _ _ _ _ h5 h]
    simp
theorem read_ev (l : List Int) (a b : Nat) (hy : By l) (hl : l.length ≤ 140737488355320) (h : a + b + 22 ≤ l.length) : Ev (fun k => valiseref12_read.f k l (wrap64 ((a : Int) + b)))
    (nat l (a + b) 2, nat l (a + b + 2) 2, nat l (a + b + 4) 2, nat l (a + b + 6) 2, nat l (a + b + 8) 2, nat l (a + b + 10) 4 % 4294967296, nat l (a + b + 14) 4, nat l (a + b + 18) 4, (⟨#[]⟩ : ByteArray), (⟨#[]⟩ : ByteArray)) := by
  rw [w64 (x := (a : Int) + b) (by omega) (by omega), show (a : Int) + b = ((a + b : Nat) : Int) by omega]
  generalize a + b = c at h ⊢
  unfold valiseref12_read.f
  refine Ev.bind (number_ev l c 2 hy (by omega) (by omega) (by omega)) ?_
  refine Ev.bind (number_at l c 2 2 hy (by omega) (by omega) (by omega)) ?_
  refine Ev.bind (number_at l c 4 2 hy (by omega) (by omega) (by omega)) ?_
  refine Ev.bind (number_at l c 6 2 hy (by omega) (by omega) (by omega)) ?_
  refine Ev.bind (number_at l c 8 2 hy (by omega) (by omega) (by omega)) ?_
  refine Ev.bind (number_at l c 10 4 hy (by omega) (by omega) (by omega)) ?_
  refine Ev.bind (number_at l c 14 4 hy (by omega) (by omega) (by omega)) ?_
  refine Ev.bind (number_at l c 18 4 hy (by omega) (by omega) (by omega)) ?_
  exact done rfl
theorem rgetL_ev (l : List Int) (a : Int) (hy : By l) (hl : l.length ≤ 140737488355320) (h1 : -9223372036854775808 ≤ a) (h2 : a ≤ 9223372036854775807) : Ev (fun k => valiseref12_GetLocal.f k l a) (getLocalF l a) := by
  unfold valiseref12_GetLocal.f
  refine Ev.bind (begins_ev l a 30 67324752 hy (by omega) (by omega) (by omega) h1 h2) ?_
  unfold getLocalF
  by_cases hE : fieldsE l a 30 67324752 = 0
  · obtain ⟨g1, g2⟩ := fields_ok_le hE
    refine pos hE ?_
    rw [if_pos hE]
    obtain ⟨b, rfl⟩ : ∃ b : Nat, a = (b : Int) := ⟨a.toNat, by omega⟩
    have hb : b + 30 ≤ l.length := by omega
    have q : ∀ {k n : Nat}, k + n ≤ 30 → nm ((CS.mk ((l.take (b + 30)).drop b) k 0).next n) = nat l (b + k) n := fun h => (cur_at hb h).1
    have p : ∀ {k n : Nat}, k + n ≤ 30 → (CS.mk ((l.take (b + 30)).drop b) k 0).adv n = ⟨(l.take (b + 30)).drop b, k + n, 0⟩ := fun h => (cur_at hb h).2
    unfold fieldsC
    rw [Int.toNat_natCast, p (k := 4) (n := 2) (by omega), p (k := 4 + 2) (n := 2) (by omega), p (k := 4 + 2 + 2) (n := 2) (by omega), p (k := 4 + 2 + 2 + 2) (n := 2) (by omega), p (k := 4 + 2 + 2 + 2 + 2) (n := 2) (by omega), p (k := 4 + 2 + 2 + 2 + 2 + 2) (n := 4) (by omega), p (k := 4 + 2 + 2 + 2 + 2 + 2 + 4) (n := 4) (by omega), p (k := 4 + 2 + 2 + 2 + 2 + 2 + 4 + 4) (n := 4) (by omega), p (k := 4 + 2 + 2 + 2 + 2 + 2 + 4 + 4 + 4) (n := 2) (by omega)]
    rw [q (k := 4) (n := 2) (by omega), q (k := 4 + 2) (n := 2) (by omega), q (k := 4 + 2 + 2) (n := 2) (by omega), q (k := 4 + 2 + 2 + 2) (n := 2) (by omega), q (k := 4 + 2 + 2 + 2 + 2) (n := 2) (by omega), q (k := 4 + 2 + 2 + 2 + 2 + 2) (n := 4) (by omega), q (k := 4 + 2 + 2 + 2 + 2 + 2 + 4) (n := 4) (by omega), q (k := 4 + 2 + 2 + 2 + 2 + 2 + 4 + 4) (n := 4) (by omega), q (k := 4 + 2 + 2 + 2 + 2 + 2 + 4 + 4 + 4) (n := 2) (by omega), q (k := 4 + 2 + 2 + 2 + 2 + 2 + 4 + 4 + 4 + 2) (n := 2) (by omega)]
    refine Ev.bind (read_ev l b 4 hy hl (by omega)) ?_
    refine Ev.bind (number_at l b 26 2 hy (by omega) (by omega) (by omega)) ?_
    refine Ev.bind (number_at l b 28 2 hy (by omega) (by omega) (by omega)) ?_
    have hn := nat_range2 hy (b + 26)
    obtain ⟨n, hnn⟩ : ∃ n : Nat, nat l (b + 26) 2 = (n : Int) := ⟨_, (Int.toNat_of_nonneg hn.1).symm⟩
    have hm := nat_range2 hy (b + 28)
    obtain ⟨m, hmm⟩ : ∃ m : Nat, nat l (b + 28) 2 = (m : Int) := ⟨_, (Int.toNat_of_nonneg hm.1).symm⟩
    rw [show b + (4 + 2 + 2 + 2 + 2 + 2 + 4 + 4 + 4) = b + 26 by omega, show b + (4 + 2 + 2 + 2 + 2 + 2 + 4 + 4 + 4 + 2) = b + 28 by omega, hnn, hmm, w64 (x := (l.length : Int) - b) (by omega) (by omega), w64 (x := (l.length : Int) - b - 30) (by omega) (by omega), w64 (x := (n : Int) + m) (by omega) (by omega), show ((b : Int) + 30).toNat = b + 30 by omega]
    by_cases c : (l.length : Int) - b - 30 < (n : Int) + m
    · refine pos c (done ?_)
      rw [textsF_cons_no (textsF_no (by omega))]
    · refine neg c ?_
      rw [w64 (x := (b : Int) + 30) (by omega) (by omega), show (b : Int) + 30 = ((b + 30 : Nat) : Int) by omega, w64 (x := ((b + 30 : Nat) : Int) + n) (by omega) (by omega), show ((b + 30 : Nat) : Int) + n = ((b + 30 + n : Nat) : Int) by omega]
      refine bnd (piece_f (by omega) (by omega)) (bnd (piece_f (by omega) (by omega)) (done ?_))
      rw [textsF_cons (by omega) (textsF_one (by omega)), w64 (by omega) (by omega)]
      simp only [Prod.mk.injEq, Nat.add_assoc, Nat.reduceAdd, true_and, and_true]
      omega
  · refine neg hE (done ?_)
    rw [if_neg hE]
theorem RecordLocals : valiselaw12_RecordLocals.Pure := by
  intro a0 l1 a2 h0 h1 h2
  have hy : By l1 := fun x hx => by have := u8b (h1.2 x hx); omega
  have hl : l1.length ≤ 140737488355320 := by have := h1.1; omega
  have ha := i64b h2
  obtain ⟨a0, a1, a2', a3, a4, a5, a6, a7, a8, a9⟩ := a0
  have h5 : 0 ≤ a5 ∧ a5 < 4294967296 := by have h6 : 0 ≤ a5 ∧ a5 ≤ 4294967295 := u32b h0.2.2.2.2.2.1
                                           omega
  refine Ev.rounds ?_
  unfold valiselaw12_RecordLocals.f
  refine bnd (a := (localB a0 a1 a2' a3 a4 a5 a6 a7 a8 a9).ans) rfl ?_
  refine Ev.bind (rputL_ev a0 a1 a2' a3 a4 a5 a6 a7 a8 a9 h5) ?_
  refine Ev.bind (same_ev _ (localB_len _ _ _ _ _ _ _ _ _ _ h5)) (pos rfl (bnd (num_f _) ?_))
  refine Ev.step (fun k => valiselaw12_RecordLocals.j0.eq_2 ..) (neg (by simp) ?_)
  refine bnd (lent_f l1 hl) ?_
  refine bnd (a := getLocalF l1 a2) (by unfold record_GetLocal.f; rw [if_pos (okB_mk hy (by omega))]) ?_
  refine Ev.bind (rgetL_ev l1 a2 hy hl ha.1 ha.2) ?_
  refine pos (by simp) (pos rfl (bnd (num_f _) (pos rfl (Ev.bind (still_ev l1 hl) (done rfl)))))
end Go.Proofs.Ytkmnhlhpmfkloaa.PL.Pure
