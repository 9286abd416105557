/- What the small functions of layer 12's law and reference compute, in plain words. -/
import Derived.Test.YtkmnhlhpmfkloaaPDK
import Derived.Test.YtkmnhlhpmfkloaaPDQRecordDescriptors
import Derived.Test.YtkmnhlhpmfkloaaFU0
import Derived.Test.YtkmnhlhpmfkloaaFU4
namespace Go.Proofs.Ytkmnhlhpmfkloaa.PD
open Go.RowKit Go.Proofs.Ytkmnhlhpmfkloaa Go.Proofs.YtkmnhlhpmfkloaaW.PrintWords Go.Proofs.YtkmnhlhpmfkloaaW.PrintLast Go.Proofs.YtkmnhlhpmfkloaaW.PrintMore Go.Proofs.Ytkmnhlhpmfkloaa.Pur Go.Proofs.Ytkmnhlhpmfkloaa.Fld
set_option linter.unusedVariables false
abbrev By (l : List Int) : Prop := ∀ x ∈ l, 0 ≤ x ∧ x < 256
theorem toList_inj {a b : ByteArray} : a.toList = b.toList ↔ a = b := by
  refine ⟨fun h => ?_, fun h => by rw [h]⟩
  obtain ⟨⟨x⟩⟩ := a
  obtain ⟨⟨y⟩⟩ := b
  simp at h
  rw [h]
theorem put_ev (l : List Int) (v : Int) (n : Nat) (hv : 0 ≤ v) (hv2 : v ≤ 9223372036854775807) (hl : l.length + n ≤ 140737488355328) (hn : n ≤ 8) : Ev (fun k => valiseref12_put.f k l v n) (l ++ le n v) := by
  have key : ∀ (d i : Nat) (acc : List Int) (x : Int), i + d = n → 0 ≤ x → x ≤ 9223372036854775807 → acc.length = l.length + i → acc ++ le d x = l ++ le n v → Ev (fun k => valiseref12_put.l0 k acc x n (i : Int)) (l ++ le n v) := by
    intro d
    induction d with
    | zero =>
      intro i acc x hd hx hx2 ha he
      refine Ev.step (fun k => valiseref12_put.l0.eq_2 ..) (neg (by omega) (done ?_))
      rw [← he]; simp [le]
    | succ d ih =>
      intro i acc x hd hx hx2 ha he
      refine Ev.step (fun k => valiseref12_put.l0.eq_2 ..) (pos (by omega) (pos (by omega) ?_))
      have e1 : (Int.tmod x 256) % 256 = x % 256 := by rw [Int.tmod_eq_emod_of_nonneg hx]; omega
      have e2 : Int.tdiv x 256 = x / 256 := Int.tdiv_eq_ediv_of_nonneg hx
      rw [e1, e2, w64 (x := x / 256) (by omega) (by omega), w64 (x := (i : Int) + 1) (by omega) (by omega)]
      refine ih (i + 1) _ _ (by omega) (by omega) (by omega) (by simp; omega) ?_
      rw [← he, le, List.append_assoc]
      rfl
  exact key n 0 l v (by omega) hv hv2 rfl rfl
theorem is32_r (v : Int) : valiseref12_is32.f v = some (decide (0 ≤ v ∧ v ≤ 4294967295)) := by
  unfold valiseref12_is32.f
  by_cases h : v ≥ 0
  · rw [if_pos h]; congr 1; simp; omega
  · rw [if_neg h]; congr 1; symm; rw [decide_eq_false_iff_not]; omega
theorem same_ev (l : List Int) (hl : l.length ≤ 140737488355328) : Ev (fun k => valiselaw12_same.f k l l) true := by
  unfold valiselaw12_same.f
  refine pos rfl ?_
  have key : ∀ (d i : Nat), i + d = l.length → Ev (fun k => valiselaw12_same.l0 k l l (i : Int)) true := by
    intro d
    induction d with
    | zero =>
      intro i hd
      exact Ev.step (fun k => valiselaw12_same.l0.eq_2 ..) (neg (by omega) (done rfl))
    | succ d ih =>
      intro i hd
      refine Ev.step (fun k => valiselaw12_same.l0.eq_2 ..) (pos (by omega) (pos (by omega) (pos (by omega) (pos rfl ?_))))
      rw [w64 (x := (i : Int) + 1) (by omega) (by omega)]
      exact ih (i + 1) (by omega)
  exact key l.length 0 (by omega)
theorem lent_f (l : List Int) (hl : l.length ≤ 140737488355320) : valiselaw12_lent.f l = some l := by
  unfold valiselaw12_lent.f
  rw [if_pos hl]
theorem still_ev (l : List Int) (hl : l.length ≤ 140737488355320) : Ev (fun k => valiselaw12_still.f k l l) true := by
  unfold valiselaw12_still.f
  refine pos ⟨rfl, hl⟩ ?_
  have hp : (l ++ pad).length = l.length + 8 := by rw [List.length_append]; rfl
  have key : ∀ (d i : Nat), i + d = l.length + 8 → Ev (fun k => valiselaw12_still.l0 k l (l ++ pad) (i : Int)) true := by
    intro d
    induction d with
    | zero =>
      intro i hd
      exact Ev.step (fun k => valiselaw12_still.l0.eq_2 ..) (neg (by omega) (done rfl))
    | succ d ih =>
      intro i hd
      refine Ev.step (fun k => valiselaw12_still.l0.eq_2 ..) (pos (by omega) ?_)
      have hr := ih (i + 1) (by omega)
      rw [← w64 (x := ((i + 1 : Nat) : Int)) (by omega) (by omega)] at hr
      by_cases hi : i < l.length
      · exact pos (by omega) (pos (by omega) (pos (rd_app_left _ _ _ (by omega) (by omega)) (neg (by omega) hr)))
      · refine neg (by omega) (pos (by omega) (pos (by omega) (pos ?_ hr)))
        unfold rd pad
        rw [Int.toNat_natCast, List.getD_eq_getElem?_getD, List.getElem?_append_right (by omega), List.getElem?_replicate, if_pos (by omega)]
        rfl
  exact key (l.length + 8) 0 (by omega)
theorem okB_mk {l : List Int} (hy : By l) (hl : l.length ≤ 140737488355328) : okB l = true := by
  unfold okB
  rw [Bool.and_eq_true, List.all_eq_true]
  exact ⟨fun x hx => by have := hy x hx; rw [decide_eq_true this.1, decide_eq_true this.2]; rfl, decide_eq_true hl⟩
theorem num_f (e : Int) : valiselaw12_num.f e = some e := rfl
end Go.Proofs.Ytkmnhlhpmfkloaa.PD
