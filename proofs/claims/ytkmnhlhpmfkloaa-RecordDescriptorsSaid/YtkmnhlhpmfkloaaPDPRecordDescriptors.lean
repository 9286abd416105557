/- RecordDescriptors: the pure statement, proved: every PutDescriptor and GetDescriptor is the document's. -/
import Derived.Test.YtkmnhlhpmfkloaaPDA
namespace Go.Proofs.Ytkmnhlhpmfkloaa.PD.Pure
open Go.RowKit Go.Proofs.Ytkmnhlhpmfkloaa Go.Proofs.YtkmnhlhpmfkloaaW.PrintWords Go.Proofs.YtkmnhlhpmfkloaaW.PrintLast Go.Proofs.YtkmnhlhpmfkloaaW.PrintMore Go.Proofs.Ytkmnhlhpmfkloaa.Pur Go.Proofs.Ytkmnhlhpmfkloaa.PD Go.Proofs.Ytkmnhlhpmfkloaa.Fld
set_option linter.unusedVariables false

def d12 (s p z : Int) : List Int := le 4 s ++ (le 4 p ++ le 4 z)
theorem d12_len (s p z : Int) : (d12 s p z).length = 12 := by simp [d12, le_length]
theorem by_app {a b : List Int} (ha : By a) (hb : By b) : By (a ++ b) := fun x hx => by
  rcases List.mem_append.1 hx with h | h
  · exact ha x h
  · exact hb x h
theorem d12_by (s p z : Int) : By (d12 s p z) := by_app (le_mem 4 s) (by_app (le_mem 4 p) (le_mem 4 z))
section
variable (f0 f1 f2 f3 f4 : Int) (f8 f9 : ByteArray)
theorem desc_err {s p z : Int} {g : Bool} (h : ¬ (0 ≤ p ∧ p ≤ 4294967295) ∨ ¬ (0 ≤ z ∧ z ≤ 4294967295)) : (descB f0 f1 f2 f3 f4 s p z f8 f9 g).err ≠ 0 := by
  intro he
  unfold descB at he
  obtain ⟨e3, x3, y3, z3⟩ := gnum_ok he
  obtain ⟨e2, x2, y2, z2⟩ := gnum_ok e3
  omega
theorem desc_no {s p z : Int} {g : Bool} (h : ¬ (0 ≤ p ∧ p ≤ 4294967295) ∨ ¬ (0 ≤ z ∧ z ≤ 4294967295)) : (descB f0 f1 f2 f3 f4 s p z f8 f9 g).ans = ([], 124) := by
  unfold BS.ans
  rw [if_neg (desc_err f0 f1 f2 f3 f4 f8 f9 h)]
theorem desc_yes {s p z : Int} (g : Bool) (hs : 0 ≤ s) (hs2 : s < 4294967296) (hp : 0 ≤ p) (hp2 : p ≤ 4294967295) (hz : 0 ≤ z) (hz2 : z ≤ 4294967295) :
    descB f0 f1 f2 f3 f4 s p z f8 f9 g = ⟨(if g then le 4 134695760 else []) ++ d12 s p z, 16, 0⟩ := by
  unfold descB d12
  have e0 : (⟨[], 16, 0⟩ : BS).num 134695760 4 = ⟨le 4 134695760, 16, 0⟩ := num_fit (by omega) (by omega) (by simp)
  have e1 : wrap64 s = s := w64 (by omega) (by omega)
  cases g with
  | true =>
    rw [if_pos rfl, e0, e1, num_fit hs (by omega) (by simp [le_length]), num_fit hp (by omega) (by simp [le_length]), num_fit hz (by omega) (by simp [le_length])]
    simp
  | false =>
    rw [if_neg (by simp), e1, num_fit hs (by omega) (by simp), num_fit hp (by omega) (by simp [le_length]), num_fit hz (by omega) (by simp [le_length])]
    simp
theorem rputD_ev (s p z : Int) (g : Bool) (hs : 0 ≤ s) (hs2 : s < 4294967296) : Ev (fun k => valiseref12_PutDescriptor.f k f0 f1 f2 f3 f4 s p z f8 f9 g) (descB f0 f1 f2 f3 f4 s p z f8 f9 g).ans := by
  unfold valiseref12_PutDescriptor.f
  refine bnd (is32_r _) (bnd (is32_r _) ?_)
  by_cases hp : 0 ≤ p ∧ p ≤ 4294967295
  · refine pos (decide_eq_true hp) (Ev.step (fun k => valiseref12_PutDescriptor.j0.eq_2 ..) ?_)
    by_cases hz : 0 ≤ z ∧ z ≤ 4294967295
    · refine neg (by simp; omega) ?_
      rw [desc_yes f0 f1 f2 f3 f4 f8 f9 g hs hs2 hp.1 hp.2 hz.1 hz.2, w64 (x := s) (by omega) (by omega)]
      cases g with
      | true =>
        refine pos rfl ?_
        refine Ev.bind (put_ev _ _ 4 (by omega) (by omega) (by simp) (by omega)) ?_
        refine Ev.bind (put_ev _ _ 4 (by omega) (by omega) (by simp [le_length]) (by omega)) ?_
        refine Ev.bind (put_ev _ _ 4 (by omega) (by omega) (by simp [le_length]) (by omega)) ?_
        refine Ev.bind (put_ev _ _ 4 (by omega) (by omega) (by simp [le_length]) (by omega)) (done ?_)
        simp [BS.ans, d12]
      | false =>
        refine neg (by simp) ?_
        refine Ev.bind (put_ev _ _ 4 (by omega) (by omega) (by simp) (by omega)) ?_
        refine Ev.bind (put_ev _ _ 4 (by omega) (by omega) (by simp [le_length]) (by omega)) ?_
        refine Ev.bind (put_ev _ _ 4 (by omega) (by omega) (by simp [le_length]) (by omega)) (done ?_)
        simp [BS.ans, d12]
    · rw [desc_no f0 f1 f2 f3 f4 f8 f9 (.inr hz)]
      exact pos (by rw [decide_eq_false hz]; rfl) (done rfl)
  · rw [desc_no f0 f1 f2 f3 f4 f8 f9 (.inl hp)]
    exact neg (by simpa using hp) (Ev.step (fun k => valiseref12_PutDescriptor.j0.eq_2 ..) (pos rfl (done rfl)))
end
theorem hasP_by {a p : List Int} (ha : By a) (hp : By p) : hasP a p = decide (a.take p.length = p) := by
  unfold hasP
  rw [Bool.eq_iff_iff, decide_eq_true_iff, beq_iff_eq, toList_inj]
  refine ⟨fun h => str_inj (fun x hx => ha x (List.mem_of_mem_take hx)) hp h, fun h => by rw [h]⟩
theorem stands_ev (l : List Int) (a : Nat) (p : List Int) (hl : l.length ≤ 140737488355328) (hp : p.length ≤ 100) (ha : a ≤ l.length) : Ev (fun k => valiseref12_stands.f k l (a : Int) p) (decide ((l.drop a).take p.length = p)) := by
  unfold valiseref12_stands.f
  rw [w64 (x := (l.length : Int) - a) (by omega) (by omega)]
  by_cases c : (l.length : Int) - a < (p.length : Int)
  · refine pos c (done (decide_eq_false fun h => ?_).symm)
    have := congrArg List.length h
    rw [List.length_take, List.length_drop] at this
    omega
  · refine neg c ?_
    have key : ∀ (d i : Nat), i + d = p.length → (l.drop a).take i = p.take i → Ev (fun k => valiseref12_stands.l0 k l (a : Int) p (i : Int)) (decide ((l.drop a).take p.length = p)) := by
      intro d
      induction d with
      | zero =>
        intro i hd hi
        obtain rfl : i = p.length := by omega
        rw [List.take_length] at hi
        exact Ev.step (fun k => valiseref12_stands.l0.eq_2 ..) (neg (by omega) (done (decide_eq_true hi).symm))
      | succ d ih =>
        intro i hd hi
        have e0 : wrap64 ((a : Int) + i) = ((a + i : Nat) : Int) := by rw [w64 (by omega) (by omega)]; omega
        have hld : i < (l.drop a).length := by rw [List.length_drop]; omega
        refine Ev.step (fun k => valiseref12_stands.l0.eq_2 ..) (pos (by omega) ?_)
        rw [e0]
        refine pos (by omega) (pos (by omega) (pos (by omega) ?_))
        rw [rd_nat l (a + i) (by omega), rd_nat p i (by omega)]
        by_cases he : l[a + i]'(by omega) = p[i]'(by omega)
        · refine pos he ?_
          rw [w64 (x := (i : Int) + 1) (by omega) (by omega)]
          refine ih (i + 1) (by omega) ?_
          rw [List.take_succ_eq_append_getElem hld, List.take_succ_eq_append_getElem (by omega), hi, List.getElem_drop, he]
        · refine neg he (done (decide_eq_false fun h => he ?_).symm)
          have h2 : ((l.drop a).take p.length)[i]'(by rw [List.length_take]; omega) = p[i]'(by omega) := by simp only [h]
          rw [List.getElem_take, List.getElem_drop] at h2
          exact h2
    exact key p.length 0 (by omega) rfl
section
variable (f0 f1 f2 f3 f4 : Int) (f8 f9 : ByteArray)
theorem rgetD_ev (l : List Int) (a s p z : Int) (hy : By l) (hl : l.length ≤ 140737488355320) (h1 : -9223372036854775808 ≤ a) (h2 : a ≤ 9223372036854775807) (hs : 0 ≤ s) (hs2 : s < 4294967296) :
    Ev (fun k => valiseref12_GetDescriptor.f k l a f0 f1 f2 f3 f4 s p z f8 f9) (getDescF l a f0 f1 f2 f3 f4 s p z f8 f9) := by
  unfold valiseref12_GetDescriptor.f getDescF
  by_cases c1 : a < 0
  · rw [if_pos (show a < 0 ∨ (l.length : Int) < a from .inl c1)]
    exact pos c1 (Ev.step (fun k => valiseref12_GetDescriptor.j0.eq_2 ..) (pos rfl (done rfl)))
  · refine neg c1 (Ev.step (fun k => valiseref12_GetDescriptor.j0.eq_2 ..) ?_)
    by_cases c2 : a > (l.length : Int)
    · rw [if_pos (show a < 0 ∨ (l.length : Int) < a from .inr c2)]
      exact pos (decide_eq_true c2) (done rfl)
    · refine neg (by simpa using c2) (Ev.bind (rputD_ev f0 f1 f2 f3 f4 f8 f9 s p z true hs hs2) ?_)
      rw [if_neg (show ¬ (a < 0 ∨ (l.length : Int) < a) by omega)]
      by_cases hpz : (0 ≤ p ∧ p ≤ 4294967295) ∧ (0 ≤ z ∧ z ≤ 4294967295)
      · obtain ⟨hp, hz⟩ := hpz
        rw [desc_yes f0 f1 f2 f3 f4 f8 f9 true hs hs2 hp.1 hp.2 hz.1 hz.2]
        obtain ⟨b, rfl⟩ : ∃ b : Nat, a = (b : Int) := ⟨a.toNat, by omega⟩
        have hbl : b ≤ l.length := by omega
        have e1 : (BS.mk ((if (true = true) then le 4 134695760 else []) ++ d12 s p z) 16 0).ans = (le 4 134695760 ++ d12 s p z, 0) := by simp [BS.ans]
        have hyd : By (l.drop b) := fun x hx => hy x (List.mem_of_mem_drop hx)
        have hL : (le 4 134695760 ++ d12 s p z).length = 16 := by rw [List.length_append, le_length, d12_len]
        rw [e1]
        simp only [↓reduceIte, Int.toNat_natCast]
        rw [List.drop_left' (le_length 4 134695760), hasP_by hyd (by_app (le_mem _ _) (d12_by s p z)), hasP_by hyd (d12_by s p z)]
        refine Ev.bind (stands_ev l b _ (by omega) (by omega) hbl) ?_
        by_cases g1 : (l.drop b).take (le 4 134695760 ++ d12 s p z).length = le 4 134695760 ++ d12 s p z
        · exact pos (decide_eq_true g1) (done (by rw [if_pos (decide_eq_true g1)]))
        · have n1 : ¬ (decide ((l.drop b).take (le 4 134695760 ++ d12 s p z).length = le 4 134695760 ++ d12 s p z) = true) := by simpa using g1
          refine neg n1 (pos (by omega) ?_)
          refine Ev.bind (stands_ev l b _ (by omega) (by rw [d12_len]; omega) hbl) ?_
          by_cases g2 : (l.drop b).take (d12 s p z).length = d12 s p z
          · exact pos (decide_eq_true g2) (done (by rw [if_neg n1, if_pos (decide_eq_true g2)]))
          · have n2 : ¬ (decide ((l.drop b).take (d12 s p z).length = d12 s p z) = true) := by simpa using g2
            refine neg n2 ?_
            rw [w64 (x := (l.length : Int) - b) (by omega) (by omega), if_neg n1, if_neg n2]
            by_cases g3 : (l.length : Int) - b < 12
            · exact pos g3 (done (by rw [if_pos g3]))
            · exact neg g3 (done (by rw [if_neg g3]))
      · have hno : ¬ (0 ≤ p ∧ p ≤ 4294967295) ∨ ¬ (0 ≤ z ∧ z ≤ 4294967295) := by omega
        rw [desc_no f0 f1 f2 f3 f4 f8 f9 hno, if_neg (desc_err f0 f1 f2 f3 f4 f8 f9 hno)]
        exact neg (by simp) (done rfl)
theorem descB_len (s p z : Int) (g : Bool) (hs : 0 ≤ s) (hs2 : s < 4294967296) : (descB f0 f1 f2 f3 f4 s p z f8 f9 g).ans.1.length ≤ 140737488355328 := by
  by_cases hpz : (0 ≤ p ∧ p ≤ 4294967295) ∧ (0 ≤ z ∧ z ≤ 4294967295)
  · rw [desc_yes f0 f1 f2 f3 f4 f8 f9 g hs hs2 hpz.1.1 hpz.1.2 hpz.2.1 hpz.2.2]
    cases g <;> simp [BS.ans, d12_len, le_length]
  · rw [desc_no f0 f1 f2 f3 f4 f8 f9 (by omega)]; simp
end
theorem RecordDescriptors : valiselaw12_RecordDescriptors.Pure := by
  intro a0 g l1 a2 h0 h1 h2
  have hy : By l1 := fun x hx => by have := u8b (h1.2 x hx); omega
  have hl : l1.length ≤ 140737488355320 := by have := h1.1; omega
  have ha := i64b h2
  obtain ⟨f0, f1, f2, f3, f4, s, p, z, f8, f9⟩ := a0
  have h5 : 0 ≤ s ∧ s < 4294967296 := by have h6 : 0 ≤ s ∧ s ≤ 4294967295 := u32b h0.2.2.2.2.2.1
                                         omega
  refine Ev.rounds ?_
  unfold valiselaw12_RecordDescriptors.f
  refine bnd (a := (descB f0 f1 f2 f3 f4 s p z f8 f9 g).ans) rfl ?_
  refine Ev.bind (rputD_ev f0 f1 f2 f3 f4 f8 f9 s p z g h5.1 h5.2) ?_
  refine Ev.bind (same_ev _ (descB_len _ _ _ _ _ _ _ _ _ _ _ h5.1 h5.2)) (pos rfl (bnd (num_f _) ?_))
  refine Ev.step (fun k => valiselaw12_RecordDescriptors.j0.eq_2 ..) (neg (by simp) ?_)
  refine bnd (lent_f l1 hl) ?_
  refine bnd (a := getDescF l1 a2 f0 f1 f2 f3 f4 s p z f8 f9) (by unfold record_GetDescriptor.f; rw [if_pos (by omega)]) ?_
  refine Ev.bind (rgetD_ev f0 f1 f2 f3 f4 f8 f9 l1 a2 s p z hy hl ha.1 ha.2 h5.1 h5.2) ?_
  exact pos rfl (bnd (num_f _) (pos rfl (Ev.bind (still_ev l1 hl) (done rfl))))
end Go.Proofs.Ytkmnhlhpmfkloaa.PD.Pure
