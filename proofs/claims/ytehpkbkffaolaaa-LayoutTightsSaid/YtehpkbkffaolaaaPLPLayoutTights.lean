/- LayoutTights: the pure statement, proved: both sums wrap round alike, and go over the same entries. -/
import Derived.Test.YtehpkbkffaolaaaPLQLayoutTights
import Derived.Test.YtehpkbkffaolaaaPur
namespace Go.Proofs.Ytehpkbkffaolaaa.PL.Pure
open Go.RowKit Go.Proofs.Ytehpkbkffaolaaa Go.Proofs.YtehpkbkffaolaaaW.PrintWords Go.Proofs.YtehpkbkffaolaaaW.PrintLast Go.Proofs.YtehpkbkffaolaaaW.PrintMore Go.Proofs.Ytehpkbkffaolaaa.Pur Go.Proofs.Ytehpkbkffaolaaa.PL
set_option linter.unusedVariables false
set_option linter.unusedSimpArgs false

/-- What one entry adds. -/
def one (x : S30) : Int := 46 + (x.f0.f0.f8.size : Int) + x.f0.f0.f9.size + x.f0.f6.size + (if x.f4 > x.f2 ∧ x.f4 - x.f2 ≤ 16777216 then x.f4 - x.f2 else 0)
def sum_ (n : Int) : List S30 → Int
  | [] => n
  | x :: xs => sum_ (wrap64 (n + one x)) xs
theorem rdE_nat (xs : List S30) (i : Nat) (h : i < xs.length) : rd_T30 xs (i : Int) = xs[i] := by
  simp [rd_T30, List.getD_eq_getElem?_getD, h]
theorem drop_rdE (xs : List S30) (n : Nat) (h : n < xs.length) : xs.drop n = rd_T30 xs n :: xs.drop (n + 1) := by
  rw [List.drop_eq_getElem_cons h, rdE_nat _ _ h]
theorem take_rdE (xs : List S30) (n : Nat) (h : n < xs.length) : xs.take (n + 1) = xs.take n ++ [rd_T30 xs n] := by
  rw [List.take_succ_eq_append_getElem h, rdE_nat _ _ h]
theorem wrap_same {a b : Int} (h : a % 18446744073709551616 = b % 18446744073709551616) : wrap64 a = wrap64 b := by
  unfold wrap64
  omega
theorem wrap_l (a b : Int) : wrap64 (wrap64 a + b) = wrap64 (a + b) := by
  unfold wrap64
  omega
theorem wrap_r (a b : Int) : wrap64 (a + wrap64 b) = wrap64 (a + b) := by
  unfold wrap64
  omega
theorem wrap_s (a b : Int) : wrap64 (wrap64 a - b) = wrap64 (a - b) := by
  unfold wrap64
  omega
theorem u64w (x : Int) : IntKind.u64.wrap x = x % 18446744073709551616 := by
  simp [IntKind.wrap, IntKind.signed, IntKind.bits]

theorem tight_m (l : List S30) (hn : l.length * 192 ≤ 140737488355328) (hw : ∀ x ∈ l, wfS30 x) : ∀ (d i : Nat) (n : Int), i + d = l.length → Ev (fun k => layout_Tight.l0 k n l (l.length : Int) i) (sum_ n (l.drop i)) := by
  intro d
  induction d with
  | zero =>
    intro i n hd
    refine Ev.step (fun k => layout_Tight.l0.eq_2 ..) (neg (by omega) (done ?_))
    rw [List.drop_eq_nil_of_le (by omega)]
    rfl
  | succ d ih =>
    intro i n hd
    refine Ev.step (fun k => layout_Tight.l0.eq_2 ..) (pos (by omega) (pos (by omega) (pos (by omega) ?_)))
    have hx := hw _ (by rw [rdE_nat l i (by omega)]; exact List.getElem_mem (by omega : i < l.length) : rd_T30 l (i : Int) ∈ l)
    rw [drop_rdE l i (by omega)]
    generalize rd_T30 l (i : Int) = x at hx ⊢
    obtain ⟨h0, h1, h2, h3, h4⟩ := hx
    have b2 := i64b h2
    have b4 := i64b h4
    have hi : wrap64 ((i : Int) + 1) = ((i + 1 : Nat) : Int) := by rw [w64 (by omega) (by omega)]; omega
    rw [hi, u64w, u64w, u64w]
    have s0 := h0.1.2.2.2.2.2.2.2.2.1
    have s1 := h0.1.2.2.2.2.2.2.2.2.2
    have s2 := h0.2.2.2.2.2.2
    by_cases c1 : x.f4 > x.f2
    · refine pos c1 ?_
      by_cases c2 : (x.f4 % 18446744073709551616 - x.f2 % 18446744073709551616) % 18446744073709551616 ≤ 16777216
      · refine pos c2 ?_
        have e : one x = 46 + (x.f0.f0.f8.size : Int) + x.f0.f0.f9.size + x.f0.f6.size + (x.f4 - x.f2) := by
          unfold one
          rw [if_pos ⟨c1, by omega⟩]
        have hs : sum_ n (x :: l.drop (i + 1)) = sum_ (wrap64 (wrap64 (n + wrap64 (wrap64 (wrap64 (46 + (x.f0.f0.f8.size : Int)) + x.f0.f0.f9.size) + x.f0.f6.size)) + wrap64 (x.f4 - x.f2))) (l.drop (i + 1)) := by
          rw [sum_, e]
          congr 1
          simp only [wrap_l, wrap_r, wrap_s] <;> (congr 1 <;> omega)
        rw [hs]
        exact ih (i + 1) _ (by omega)
      · refine neg c2 ?_
        have e : one x = 46 + (x.f0.f0.f8.size : Int) + x.f0.f0.f9.size + x.f0.f6.size := by
          unfold one
          rw [if_neg (by omega)]
          omega
        have hs : sum_ n (x :: l.drop (i + 1)) = sum_ (wrap64 (n + wrap64 (wrap64 (wrap64 (46 + (x.f0.f0.f8.size : Int)) + x.f0.f0.f9.size) + x.f0.f6.size))) (l.drop (i + 1)) := by
          rw [sum_, e]
          congr 1
          simp only [wrap_l, wrap_r, wrap_s] <;> (congr 1 <;> omega)
        rw [hs]
        exact ih (i + 1) _ (by omega)
    · refine neg c1 ?_
      have e : one x = 46 + (x.f0.f0.f8.size : Int) + x.f0.f0.f9.size + x.f0.f6.size := by
        unfold one
        rw [if_neg (by omega)]
        omega
      have hs : sum_ n (x :: l.drop (i + 1)) = sum_ (wrap64 (n + wrap64 (wrap64 (wrap64 (46 + (x.f0.f0.f8.size : Int)) + x.f0.f0.f9.size) + x.f0.f6.size))) (l.drop (i + 1)) := by
        rw [sum_, e]
        congr 1
        simp only [wrap_l, wrap_r, wrap_s] <;> (congr 1 <;> omega)
      rw [hs]
      exact ih (i + 1) _ (by omega)

theorem tight_r (l : List S30) (hn : l.length * 192 ≤ 140737488355328) (hw : ∀ x ∈ l, wfS30 x) : ∀ (d i : Nat) (n : Int), i + d = l.length → Ev (fun k => valiseref13_Tight.l0 k l n i) (sum_ n (l.drop i)) := by
  intro d
  induction d with
  | zero =>
    intro i n hd
    refine Ev.step (fun k => valiseref13_Tight.l0.eq_2 ..) (neg (by omega) (done ?_))
    rw [List.drop_eq_nil_of_le (by omega)]
    rfl
  | succ d ih =>
    intro i n hd
    refine Ev.step (fun k => valiseref13_Tight.l0.eq_2 ..) (pos (by omega) (pos (by omega) ?_))
    have hx := hw _ (by rw [rdE_nat l i (by omega)]; exact List.getElem_mem (by omega : i < l.length) : rd_T30 l (i : Int) ∈ l)
    rw [drop_rdE l i (by omega)]
    generalize rd_T30 l (i : Int) = x at hx ⊢
    obtain ⟨h0, h1, h2, h3, h4⟩ := hx
    have b2 := i64b h2
    have b4 := i64b h4
    have hi : wrap64 ((i : Int) + 1) = ((i + 1 : Nat) : Int) := by rw [w64 (by omega) (by omega)]; omega
    rw [hi]
    have hskip : ¬ (x.f4 > x.f2 ∧ x.f4 - x.f2 ≤ 16777216) → sum_ n (x :: l.drop (i + 1)) = sum_ (wrap64 (wrap64 (wrap64 (wrap64 (n + 46) + (x.f0.f0.f8.size : Int)) + x.f0.f0.f9.size) + x.f0.f6.size)) (l.drop (i + 1)) := by
      intro hc
      have e : one x = 46 + (x.f0.f0.f8.size : Int) + x.f0.f0.f9.size + x.f0.f6.size := by
        unfold one
        rw [if_neg hc]
        omega
      rw [sum_, e]
      congr 1
      simp only [wrap_l, wrap_r, wrap_s] <;> (congr 1 <;> omega)
    have hadd : x.f4 ≥ x.f2 → x.f4 - x.f2 ≤ 16777216 → sum_ n (x :: l.drop (i + 1)) = sum_ (wrap64 (wrap64 (wrap64 (wrap64 (wrap64 (wrap64 (n + 46) + (x.f0.f0.f8.size : Int)) + x.f0.f0.f9.size) + x.f0.f6.size) + x.f4) - x.f2)) (l.drop (i + 1)) := by
      intro hc1 hc2
      have e : one x = 46 + (x.f0.f0.f8.size : Int) + x.f0.f0.f9.size + x.f0.f6.size + (x.f4 - x.f2) := by
        unfold one
        split <;> omega
      rw [sum_, e]
      congr 1
      simp only [wrap_l, wrap_r, wrap_s] <;> (congr 1 <;> omega)
    by_cases c1 : x.f2 ≤ x.f4
    · refine pos c1 ?_
      by_cases c2 : x.f2 ≥ 0
      · refine pos c2 ?_
        rw [w64 (x := x.f4 - x.f2) (by omega) (by omega)]
        by_cases c3 : x.f4 - x.f2 ≤ 16777216
        · refine pos c3 (pos (by omega) ?_)
          rw [hadd (by omega) c3]
          exact ih (i + 1) _ (by omega)
        · refine neg c3 ?_
          rw [hskip (by omega)]
          exact ih (i + 1) _ (by omega)
      · refine neg c2 ?_
        rw [w64 (x := 16777216 + x.f2) (by omega) (by omega)]
        by_cases c3 : x.f4 ≤ 16777216 + x.f2
        · refine pos c3 ?_
          rw [w64 (x := x.f4 - x.f2) (by omega) (by omega)]
          refine pos (by omega) (pos (by omega) ?_)
          rw [hadd (by omega) (by omega)]
          exact ih (i + 1) _ (by omega)
        · refine neg c3 ?_
          rw [hskip (by omega)]
          exact ih (i + 1) _ (by omega)
    · refine neg c1 ?_
      rw [hskip (by omega)]
      exact ih (i + 1) _ (by omega)

theorem entries_self (l : List S30) (hn : l.length * 192 ≤ 140737488355328) : Ev (fun k => valiselaw13_entries.f k l l) true := by
  unfold valiselaw13_entries.f
  refine pos rfl ?_
  have key : ∀ (d i : Nat), i + d = l.length → Ev (fun k => valiselaw13_entries.l0 k l l (i : Int)) true := by
    intro d
    induction d with
    | zero =>
      intro i hd
      exact Ev.step (fun k => valiselaw13_entries.l0.eq_2 ..) (neg (by omega) (done rfl))
    | succ d ih =>
      intro i hd
      refine Ev.step (fun k => valiselaw13_entries.l0.eq_2 ..) (pos (by omega) (pos (by omega) (pos (by omega) ?_)))
      refine neg (by simp) ?_
      rw [w64 (by omega) (by omega)]
      exact ih (i + 1) (by omega)
  exact key l.length 0 (by omega)

theorem LayoutTights : valiselaw13_LayoutTights.Pure := by
  intro l a hl ha
  have hn := hl.1
  refine Ev.rounds ?_
  have hc : valiselaw13_copied.f l = some l := by
    unfold valiselaw13_copied.f
    rw [if_pos (by omega), if_pos (by omega), cpy_same (by simp)]
  unfold valiselaw13_LayoutTights.f
  refine bnd hc (bnd rfl (pos (by simp; omega) (bnd rfl (pos (by omega) (pos (by simp; omega) (bnd rfl ?_))))))
  obtain ⟨mark, hm⟩ : ∃ m : S30, (⟨(⟨(⟨0, 0, 0, 0, 0, 0, 0, 0, (⟨#[]⟩ : ByteArray), (⟨#[]⟩ : ByteArray)⟩ : S26), 0, 0, 0, 0, 0, (⟨#[]⟩ : ByteArray)⟩ : S28), (⟨#[]⟩ : ByteArray), (-77), 0, 0⟩ : S30) = m := ⟨_, rfl⟩
  rw [hm]
  have ht : (l ++ [mark]).take ((l.length : Int) : Int).toNat = l := by simp
  rw [ht]
  have e1 : Ev (fun k => layout_Tight.f k l a) (sum_ (wrap64 (22 + (a.size : Int))) l) := by
    unfold layout_Tight.f
    have := tight_m l (by omega) hl.2 l.length 0 (wrap64 (22 + (a.size : Int))) (by omega)
    simpa using this
  have e2 : Ev (fun k => valiseref13_Tight.f k l a) (sum_ (wrap64 (22 + (a.size : Int))) l) := by
    unfold valiseref13_Tight.f
    have := tight_r l (by omega) hl.2 l.length 0 (wrap64 (22 + (a.size : Int))) (by omega)
    simpa using this
  refine Ev.bind e1 (Ev.bind e2 (pos rfl (Ev.bind (entries_self l (by omega)) (pos rfl (pos (by simp; omega) (done ?_))))))
  have hr : rd_T30 (l ++ [mark]) (l.length : Int) = mark := by
    rw [rdE_nat _ _ (by simp)]
    simp
  rw [hr, ← hm]
  simp
end Go.Proofs.Ytehpkbkffaolaaa.PL.Pure
