/- What put, text, alike and the document's JoinExtra of layer 12 compute, in plain words. -/
import Derived.Test.YtkmnhlhpmfkloaaPRQRecordExtras
import Derived.Test.YtkmnhlhpmfkloaaPRQRecordFields
import Derived.Test.YtkmnhlhpmfkloaaPur
import Derived.Test.YtkmnhlhpmfkloaaRecP
namespace Go.Proofs.Ytkmnhlhpmfkloaa.PR
open Go.RowKit Go.Proofs.Ytkmnhlhpmfkloaa Go.Proofs.YtkmnhlhpmfkloaaW.PrintWords Go.Proofs.YtkmnhlhpmfkloaaW.PrintLast Go.Proofs.YtkmnhlhpmfkloaaW.PrintMore Go.Proofs.Ytkmnhlhpmfkloaa.Pur Go.Proofs.Ytkmnhlhpmfkloaa.Fld
set_option linter.unusedVariables false
abbrev Ext := S49
theorem rdX_nat (xs : List Ext) (i : Nat) (h : i < xs.length) : rd_T49 xs (i : Int) = xs[i] := by
  simp [rd_T49, List.getD_eq_getElem?_getD, h]
theorem take_rdX (xs : List Ext) (n : Nat) (h : n < xs.length) : xs.take (n + 1) = xs.take n ++ [rd_T49 xs n] := by
  rw [List.take_succ_eq_append_getElem h, rdX_nat _ _ h]
theorem drop_rdX (xs : List Ext) (n : Nat) (h : n < xs.length) : xs.drop n = rd_T49 xs n :: xs.drop (n + 1) := by
  rw [List.drop_eq_getElem_cons h, rdX_nat _ _ h]
def pr (x : Ext) : Int × ByteArray := (x.f0, x.f1)
def rp (p : Int × ByteArray) : Ext := ⟨p.1, p.2⟩
theorem rp_pr (l : List Ext) : (l.map pr).map rp = l := by simp [pr, rp, Function.comp_def]
theorem pr_rp (l : List (Int × ByteArray)) : (l.map rp).map pr = l := by simp [pr, rp, Function.comp_def]

theorem toList_inj {a b : ByteArray} : a.toList = b.toList ↔ a = b := by
  refine ⟨fun h => ?_, fun h => by rw [h]⟩
  obtain ⟨⟨x⟩⟩ := a
  obtain ⟨⟨y⟩⟩ := b
  simp at h
  rw [h]
theorem put_ev (l : List Int) (v : Int) (n : Nat) (hv : 0 ≤ v) (hv2 : v ≤ 9223372036854775807) (hl : l.length + n ≤ 140737488355328) (hn : n ≤ 8) : Ev (fun k => valiseref12_put.f k l v n) (l ++ le n v) := by
  have key : ∀ (d i : Nat) (acc : List Int) (x : Int), i + d = n → 0 ≤ x → x ≤ 9223372036854775807 → acc.length = l.length + i → acc ++ le d x = l ++ le n v → Ev (fun k => valiseref12_put.l0 k acc x n (i : Int)) (l ++ le n v) := by
    intro d
    induction d with
    | zero =>
      intro i acc x hd hx hx2 ha he
      refine Ev.step (fun k => valiseref12_put.l0.eq_2 ..) (neg (by omega) (done ?_))
      rw [← he]; simp [le]
    | succ d ih =>
      intro i acc x hd hx hx2 ha he
      refine Ev.step (fun k => valiseref12_put.l0.eq_2 ..) (pos (by omega) (pos (by omega) ?_))
      have e1 : (Int.tmod x 256) % 256 = x % 256 := by rw [Int.tmod_eq_emod_of_nonneg hx]; omega
      have e2 : Int.tdiv x 256 = x / 256 := Int.tdiv_eq_ediv_of_nonneg hx
      rw [e1, e2, w64 (x := x / 256) (by omega) (by omega), w64 (x := (i : Int) + 1) (by omega) (by omega)]
      refine ih (i + 1) _ _ (by omega) (by omega) (by omega) (by simp; omega) ?_
      rw [← he, le, List.append_assoc]
      rfl
  exact key n 0 l v (by omega) hv hv2 rfl rfl
theorem bt_nat (s : ByteArray) (i : Nat) (h : i < s.size) : bytesOf s = (bytesOf s).take i ++ bt s i :: (bytesOf s).drop (i + 1) := by
  have h2 : i < (bytesOf s).length := by rw [Fld.bytesOf_length]; exact h
  have h3 : (bytesOf s)[i] = bt s i := by
    rw [← rd_nat _ _ h2, rd_bytesOf]
  conv => lhs; rw [← List.take_append_drop i (bytesOf s), List.drop_eq_getElem_cons h2, h3]
theorem text_ev (l : List Int) (s : ByteArray) (hl : l.length + s.size ≤ 140737488355328) : Ev (fun k => valiseref12_text.f k l s) (l ++ bytesOf s) := by
  have key : ∀ (d i : Nat) (acc : List Int), i + d = s.size → acc = l ++ (bytesOf s).take i → Ev (fun k => valiseref12_text.l0 k acc s (i : Int)) (l ++ bytesOf s) := by
    intro d
    induction d with
    | zero =>
      intro i acc hd ha
      refine Ev.step (fun k => valiseref12_text.l0.eq_2 ..) (neg (by omega) (done ?_))
      rw [ha, List.take_of_length_le (by rw [Fld.bytesOf_length]; omega)]
    | succ d ih =>
      intro i acc hd ha
      have h2 : i < (bytesOf s).length := by rw [Fld.bytesOf_length]; omega
      refine Ev.step (fun k => valiseref12_text.l0.eq_2 ..) (pos (by omega) (pos (by omega) (pos (by rw [ha, List.length_append, List.length_take]; omega) ?_)))
      rw [w64 (x := (i : Int) + 1) (by omega) (by omega)]
      refine ih (i + 1) _ (by omega) ?_
      rw [ha, List.append_assoc, take_rd _ _ h2, rd_bytesOf]
  exact key s.size 0 l (by omega) (by simp)
theorem is16_r (v : Int) : valiseref12_is16.f v = some (decide (0 ≤ v ∧ v ≤ 65535)) := by
  unfold valiseref12_is16.f
  by_cases h : v ≥ 0
  · rw [if_pos h]; congr 1; simp; omega
  · rw [if_neg h]; congr 1; symm; rw [decide_eq_false_iff_not]; omega
theorem is16_l (v : Int) : valiselaw12_is16.f v = some (decide (0 ≤ v ∧ v ≤ 65535)) := is16_r v
theorem ext_ext {s t : Ext} (h0 : s.f0 = t.f0) (h1 : s.f1 = t.f1) : s = t := by cases s; cases t; simp_all
instance : DecidableEq Ext := fun s t => if h : s.f0 = t.f0 ∧ s.f1.toList = t.f1.toList then .isTrue (ext_ext h.1 (toList_inj.1 h.2)) else .isFalse (fun e => h (by rw [e]; exact ⟨rfl, rfl⟩))
theorem ext_ne (s t : Ext) : ((!(s.f0 == t.f0) || (!(s.f1.toList == t.f1.toList))) = true) ↔ s ≠ t := by
  constructor
  · rintro h rfl
    simp at h
  · intro h
    by_cases h0 : s.f0 = t.f0
    · by_cases h1 : s.f1.toList = t.f1.toList
      · exact absurd (ext_ext h0 (toList_inj.1 h1)) h
      · simp [h1]
    · simp [h0]
theorem alike_ev (a b : List Ext) (ha : a.length ≤ 140737488355328) : Ev (fun k => valiselaw12_alike.f k a b) (decide (a = b)) := by
  unfold valiselaw12_alike.f
  by_cases hl : (a.length : Int) = b.length
  · refine pos hl ?_
    have key : ∀ (d i : Nat), i + d = a.length → a.take i = b.take i → Ev (fun k => valiselaw12_alike.l0 k a b (i : Int)) (decide (a = b)) := by
      intro d
      induction d with
      | zero =>
        intro i hd hi
        refine Ev.step (fun k => valiselaw12_alike.l0.eq_2 ..) (neg (by omega) (done ?_))
        rw [List.take_of_length_le (by omega), List.take_of_length_le (by omega)] at hi
        exact (decide_eq_true hi).symm
      | succ d ih =>
        intro i hd hi
        refine Ev.step (fun k => valiselaw12_alike.l0.eq_2 ..) (pos (by omega) (pos (by omega) (pos (by omega) ?_)))
        by_cases he : rd_T49 a i = rd_T49 b i
        · refine neg (fun h => (ext_ne _ _).1 h he) ?_
          rw [w64 (by omega) (by omega)]
          refine ih (i + 1) (by omega) ?_
          rw [take_rdX a i (by omega), take_rdX b i (by omega), hi, he]
        · refine pos ((ext_ne _ _).2 he) (done ?_)
          exact (decide_eq_false (fun h => he (by rw [h]))).symm
    exact key a.length 0 (by omega) rfl
  · refine neg hl (done ?_)
    exact (decide_eq_false (fun h => hl (by rw [h]))).symm
/-- The document's JoinExtra is joinS. -/
def joinA (l : List Ext) : ByteArray × Int := (strOfNums (joinS [] (l.map pr)).1, (joinS [] (l.map pr)).2)
theorem str_nil : strOfNums [] = (⟨#[]⟩ : ByteArray) := rfl
theorem rjoin_ev (l : List Ext) (hn : l.length ≤ 140737488355328) : Ev (fun k => valiseref12_JoinExtra.f k l) (joinA l) := by
  unfold valiseref12_JoinExtra.f
  have key : ∀ (d i : Nat) (acc : List Int), i + d = l.length → (acc.length : Int) ≤ 65535 → joinS [] (l.map pr) = joinS acc ((l.drop i).map pr) → Ev (fun k => valiseref12_JoinExtra.l0 k l acc (i : Int)) (joinA l) := by
    intro d
    induction d with
    | zero =>
      intro i acc hd ha he
      refine Ev.step (fun k => valiseref12_JoinExtra.l0.eq_2 ..) (neg (by omega) (done ?_))
      unfold joinA
      rw [he, List.drop_eq_nil_of_le (by omega)]
      rfl
    | succ d ih =>
      intro i acc hd ha he
      rw [drop_rdX l i (by omega), List.map_cons, joinS] at he
      refine Ev.step (fun k => valiseref12_JoinExtra.l0.eq_2 ..) (pos (by omega) (pos (by omega) (bnd (is16_r _) ?_)))
      obtain ⟨x, hx⟩ : ∃ x, rd_T49 l (i : Int) = x := ⟨_, rfl⟩
      rw [hx] at he
      simp only [hx]
      by_cases h1 : ¬ (0 ≤ (pr x).1 ∧ (pr x).1 ≤ 65535) ∨ 65535 < ((pr x).2.size : Int)
      · rw [if_pos h1] at he
        have hA : joinA l = (⟨#[]⟩, 124) := by unfold joinA; rw [he]; rfl
        rw [hA]
        by_cases h2 : 0 ≤ x.f0 ∧ x.f0 ≤ 65535
        · refine pos (by simpa using h2) (Ev.step (fun k => valiseref12_JoinExtra.j1.eq_2 ..) (pos ?_ (done rfl)))
          rcases h1 with h1 | h1
          · exact absurd h2 h1
          · exact decide_eq_true h1
        · exact neg (by simpa using h2) (Ev.step (fun k => valiseref12_JoinExtra.j1.eq_2 ..) (pos rfl (done rfl)))
      · rw [if_neg h1] at he
        have h2 : 0 ≤ x.f0 ∧ x.f0 ≤ 65535 := by unfold pr at h1; simp only at h1; omega
        have h3 : (x.f1.size : Int) ≤ 65535 := by unfold pr at h1; simp only at h1; omega
        refine pos (by simpa using h2) (Ev.step (fun k => valiseref12_JoinExtra.j1.eq_2 ..) (neg (by simp; omega) (pos (by omega) (pos (by omega) ?_))))
        simp only [hx]
        refine Ev.bind (put_ev acc x.f0 2 h2.1 (by omega) (by omega) (by omega)) ?_
        refine Ev.bind (put_ev _ x.f1.size 2 (by omega) (by omega) (by rw [List.length_append, le_length]; omega) (by omega)) ?_
        refine Ev.bind (text_ev _ x.f1 (by rw [List.length_append, List.length_append, le_length, le_length]; omega)) ?_
        have hass : acc ++ le 2 x.f0 ++ le 2 (x.f1.size : Int) ++ bytesOf x.f1 = acc ++ fldB (pr x) := by unfold fldB pr; simp only [List.append_assoc]
        rw [hass]
        by_cases h4 : 65535 < ((acc ++ fldB (pr x)).length : Int)
        · rw [if_pos h4] at he
          have hA : joinA l = (⟨#[]⟩, 124) := by unfold joinA; rw [he]; rfl
          rw [hA]
          exact pos h4 (done rfl)
        · rw [if_neg h4] at he
          refine neg h4 ?_
          rw [w64 (x := (i : Int) + 1) (by omega) (by omega)]
          exact ih (i + 1) _ (by omega) (by omega) he
  exact key l.length 0 [] (by omega) (by simp) rfl
theorem join_f (l : List Ext) : record_JoinExtra.f l = some (joinA l) := by
  unfold record_JoinExtra.f joinA
  have h := joinB_ans (l.map pr) [] (by simp)
  have e : (l.map fun x => (x.f0, x.f1)) = l.map pr := rfl
  rw [e, h]
theorem split_f (s : ByteArray) : record_SplitExtra.f s = some ((rsplitF s).1.map rp, (rsplitF s).2) := by
  unfold record_SplitExtra.f
  rw [splitF_eq]
  rfl
theorem rsplit_f (s : ByteArray) : valiseref12_SplitExtra.f s = some ((rsplitF s).1.map rp, (rsplitF s).2) := rfl
theorem rsplit_len (l : List Int) : ∀ (k a : Nat) (acc : List (Int × ByteArray)), (rsplitGo l k a acc).1.length ≤ acc.length + k
  | 0, a, acc => by simp [rsplitGo]
  | k + 1, a, acc => by
    unfold rsplitGo
    split
    · split
      · simp
      · simp only
        split
        · simp
        · refine Nat.le_trans (rsplit_len l k _ _) ?_
          simp; omega
    · simp
theorem rsplitF_len (s : ByteArray) : (rsplitF s).1.length ≤ 65536 := by
  unfold rsplitF
  split
  · simp
  · have := rsplit_len (bytesOf s) (s.size + 1) 0 []
    simp at this
    omega
end Go.Proofs.Ytkmnhlhpmfkloaa.PR
