/- Small lemmas for what was walked by hand, in the print's form. -/
import Derived.Test.YtkmnhlhpmfkloaaFldE
namespace Go.Proofs.Ytkmnhlhpmfkloaa.Fld
open Go.RowKit Go.Proofs.YtkmnhlhpmfkloaaW.PrintWords Go.Proofs.YtkmnhlhpmfkloaaW.PrintLast Go.Proofs.YtkmnhlhpmfkloaaW.PrintMore Go.Proofs.Ytkmnhlhpmfkloaa.Mem
set_option linter.unusedVariables false
set_option linter.unusedSimpArgs false

theorem cut_runs {P : Program} {t e : TypeId} {i : TypeInfo} (ht : P.underlying t = some (.slice e)) (hi : P.info? e = some i) (hsz : i.size = 1) (A : Option Addr) (n c a m : Nat) (hm : a + m ≤ n) (hc : n ≤ c) :
    ∀ W : World, (Instr.slice t (.slice A n c) (some (.int .i64 (a : Int))) (some (.int .i64 ((a : Int) + (m : Int)))) none).run P W = .ok (.slice (if c = a then A else A.map (·.add (a * (Kd.int .u8).sz))) m (c - a)) W := by
  intro W
  have h := cut_mid (P := P) t e .i64 .i64 ht hi 1 hsz A n c (a : Int) ((a : Int) + (m : Int)) (by omega) (by omega) (by omega) hc W
  rw [h]
  have t1 : ((a : Int) + (m : Int)).toNat - (a : Int).toNat = m := by omega
  have t2 : (a : Int).toNat = a := by omega
  rw [t1, t2]
  rfl
theorem reps_flat {α : Type} {R : α → List Value → Prop} {enc : α → List Value} {sz : Nat} (hsz : ∀ x, (enc x).length = sz) (hR : ∀ x, R x (enc x)) : ∀ l : List α, Reps R sz l (l.flatMap enc)
  | [] => Reps.none _ _
  | x :: l => by
    have ih := reps_flat hsz hR l
    refine ⟨by rw [List.flatMap_cons, List.length_append, hsz, ih.1, List.length_cons, Nat.succ_mul]; omega, fun j p hj => ?_⟩
    rw [List.flatMap_cons]
    cases j with
    | zero =>
      simp only [List.getElem?_cons_zero, Option.some.injEq] at hj
      subst hj
      rw [Nat.zero_mul, List.drop_zero, List.take_append_of_le_length (by rw [hsz]; exact Nat.le_refl _), List.take_of_length_le (by rw [hsz]; exact Nat.le_refl _)]
      exact hR x
    | succ j =>
      rw [List.getElem?_cons_succ] at hj
      rw [Nat.succ_mul, Nat.add_comm, List.drop_append, List.drop_eq_nil_of_le (by rw [hsz]; omega), List.nil_append, hsz, Nat.add_sub_cancel_left]
      exact ih.2 j p hj
set_option maxRecDepth 100000 in
theorem piece_calls (w : World) (A : Option Addr) (cp : Nat) (l : List Int) (x n : Int) (hC : Kd.C (Kd.int .u8) w A l.length l) (hcp : l.length ≤ cp) (hl : l.length ≤ 140737488355328) (hx : 0 ≤ x) (hn : 0 ≤ n) (hxn : x + n ≤ l.length) :
    Calls Try.prog 69 #[.slice A l.length cp, .int .i64 x, .int .i64 n] w fun e w' => e = .returned (.string (strOfNums ((l.take (x.toNat + n.toNat)).drop x.toNat))) ∧ Drawn0 w w' := by
  obtain ⟨a, rfl⟩ := Int.eq_ofNat_of_zero_le hx
  obtain ⟨m, rfl⟩ := Int.eq_ofNat_of_zero_le hn
  simp only [Int.toNat_natCast]
  obtain ⟨i0, hi0, hz0, hz1, hz2⟩ := info_parts Try.infoB
  have hcut := cut_runs (P := Try.prog) Try.underlying25 hi0 hz1 A l.length cp a m (by omega) hcp
  have hCm := Kd.C_mid (k := Kd.int .u8) (c := cp) (lo := a) (hi := a + m) hC (by omega) (by omega) hcp
  have hcv := Kd.C_string (c := cp - a) Try.underlying25 Try.underlying5 Try.underlying9 hCm
  rw [mid_len (by omega : a + m ≤ l.length)] at hcv
  generalize (if cp = a then A else A.map (·.add (a * (Kd.int .u8).sz))) = A1 at hcut hcv
  have b1 : (0 : Int) ≤ (a : Int) + (m : Int) := by omega
  have b2 : (a : Int) + (m : Int) ≤ 140737488355328 := by omega
  clear hCm hC hz0 hz1 hz2 hi0
  go_enter Try.func69, Try.ntmps69
  go_wp2
  go_ret
  exact ⟨rfl, Drawn0.refl _⟩
theorem strOfNums_len (xs : List Int) : (strOfNums xs).toList.length = xs.length := by
  have h : ∀ s : ByteArray, s.toList.length = s.size := fun s => by obtain ⟨⟨l⟩⟩ := s; simp; rfl
  rw [h]
  unfold strOfNums
  simp [ByteArray.size]
/-- Are these bytes, and no more than may be? -/
def okB (l : List Int) : Bool := l.all (fun x => decide (0 ≤ x) && decide (x < 256)) && decide (l.length ≤ 140737488355328)
theorem okB_iff {l : List Int} (h : okB l = true) : (∀ x ∈ l, 0 ≤ x ∧ x < 256) ∧ l.length ≤ 140737488355328 := by
  unfold okB at h
  rw [Bool.and_eq_true, List.all_eq_true] at h
  refine ⟨fun x hx => ?_, of_decide_eq_true h.2⟩
  have := h.1 x hx
  rw [Bool.and_eq_true] at this
  exact ⟨of_decide_eq_true this.1, of_decide_eq_true this.2⟩
end Go.Proofs.Ytkmnhlhpmfkloaa.Fld
