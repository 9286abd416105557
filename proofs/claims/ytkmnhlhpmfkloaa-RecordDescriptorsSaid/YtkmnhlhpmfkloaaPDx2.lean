-- written by this session's own program ext.py over the print
import Derived.Test.YtkmnhlhpmfkloaaPDx0
import Derived.Test.YtkmnhlhpmfkloaaPDx1
import Derived.Test.YtkmnhlhpmfkloaaFU4
namespace Go.Proofs.Ytkmnhlhpmfkloaa.PD
open Go.RowKit Go.Proofs.YtkmnhlhpmfkloaaW.PrintWords Go.Proofs.YtkmnhlhpmfkloaaW.PrintLast Go.Proofs.YtkmnhlhpmfkloaaW.PrintMore
attribute [local go_sem] max2_int min2_int max_two min_two max_three min_three max_four min_four   -- for this text's walks alone
set_option linter.unusedVariables false
set_option linter.unusedSimpArgs false

/-! ### valiseref12_stands: function 54 -/
def valiseref12_stands.l0 : Nat → List Int → Int → List Int → Int → Option (Bool)
  | 0, _, _, _, _ => none
  | k + 1, x0, x1, x2, x7 => if x7 < (x2.length : Int) then (if 0 ≤ (wrap64 (x1 + x7)) then (if (wrap64 (x1 + x7)) < (x0.length : Int) then (if 0 ≤ x7 then (if (rd x0 (wrap64 (x1 + x7))) = (rd x2 x7) then (valiseref12_stands.l0 k x0 x1 x2 (wrap64 (x7 + 1))) else (some false)) else (none)) else (none)) else (none)) else (some true)
def valiseref12_stands.f (k : Nat) (l0 : List Int) (a1 : Int) (l2 : List Int) : Option (Bool) := if (wrap64 ((l0.length : Int) - a1)) < (l2.length : Int) then (some false) else (valiseref12_stands.l0 k l0 a1 l2 0)
theorem valiseref12_stands.mono_l : ∀ k, (∀ y0 y1 y2 y3, LeO (valiseref12_stands.l0 k y0 y1 y2 y3) (valiseref12_stands.l0 (k + 1) y0 y1 y2 y3))
  | 0 => fun _ _ _ _ r h => by simp [valiseref12_stands.l0] at h
  | k + 1 => by
    have ih0 := valiseref12_stands.mono_l k
    · intro y0 y1 y2 y3
      unfold valiseref12_stands.l0
      repeat' first
      | (with_reducible exact ih0 _ _ _ _)
      | (with_reducible exact LeO.refl _)
      | (with_reducible exact LeO.none _)
      | (with_reducible refine LeO.ite ?_ ?_)
      | (with_reducible refine LeO.bind ?_ (fun _ => ?_))
      | exact ih0 _ _ _ _
      | exact LeO.none _
      | refine LeO.ite ?_ ?_
      | refine LeO.bind ?_ (fun _ => ?_)
theorem valiseref12_stands.mono : ∀ a0 a1 a2 k, LeO (valiseref12_stands.f k a0 a1 a2) (valiseref12_stands.f (k + 1) a0 a1 a2) := by
  intro a0 a1 a2 k
  have ih0 := valiseref12_stands.mono_l k
  unfold valiseref12_stands.f
  repeat' first
      | (with_reducible exact ih0 _ _ _ _)
      | (with_reducible exact LeO.refl _)
      | (with_reducible exact LeO.none _)
      | (with_reducible refine LeO.ite ?_ ?_)
      | (with_reducible refine LeO.bind ?_ (fun _ => ?_))
      | exact ih0 _ _ _ _
      | exact LeO.none _
      | refine LeO.ite ?_ ?_
      | refine LeO.bind ?_ (fun _ => ?_)
set_option maxHeartbeats 8000000 in
set_option maxRecDepth 100000 in
theorem valiseref12_stands.calls (k : Nat) (A0 : Option Addr) (c0 : Nat) (l0 : List Int) (a1 : Int) (A2 : Option Addr) (c2 : Nat) (l2 : List Int) (r : Bool) (w : World) (hr0 : Kd.C (Kd.int .u8) w A0 l0.length l0) (hc0 : l0.length ≤ c0) (hr2 : Kd.C (Kd.int .u8) w A2 l2.length l2) (hc2 : l2.length ≤ c2) (h : valiseref12_stands.f k l0 a1 l2 = some r) :
    Calls Try.prog 54 #[.slice A0 l0.length c0, .int .i64 a1, .slice A2 l2.length c2] w fun e w' => e = .returned (.bool r) ∧ Drawn0 w w' := by
  have HR0 := Aside0.mk hr0
  have HC0 := Aside0.mk hc0
  clear hr0 hc0
  have HR2 := Aside0.mk hr2
  have HC2 := Aside0.mk hc2
  clear hr2 hc2
  have H : (if (wrap64 ((l0.length : Int) - a1)) < (l2.length : Int) then (some false) else (valiseref12_stands.l0 k l0 a1 l2 0)) = some r := h
  clear h
  by_cases c4 : (wrap64 ((l0.length : Int) - a1)) < (l2.length : Int)
  · rw [if_pos c4] at H
    have c4b0 : decide ((wrap64 ((l0.length : Int) - a1)) < (l2.length : Int)) = true := decide_eq_true c4
    clear c4
    obtain rfl := Option.some.inj H
    go_enter Try.func54, Try.ntmps54
    go_wp2
    repeat (go_quiet (fail); try go_wp2)
    go_ret
    exact ⟨by first | rfl | (simp; done) | (simp [*]; done), by repeat (first | exact Drawn0.refl _ | apply Drawn0.step)⟩
  · rw [if_neg c4] at H
    have c4b0 : decide ((wrap64 ((l0.length : Int) - a1)) < (l2.length : Int)) = false := decide_eq_false c4
    clear c4
    have H' := Aside0.mk H
    clear H
    go_enter Try.func54, Try.ntmps54
    go_wp2
    repeat (go_quiet (fail); try go_wp2)
    go_loopg [7] k (fun kq v7 w' => ∃ (x7_1 : Int), v7 = .int .i64 x7_1 ∧ Aside0 (valiseref12_stands.l0 kq l0 a1 l2 x7_1 = some r) ∧ Aside0 (kq ≤ k) ∧ Drawn0 w w')
    case atStart => exact ⟨(0), (by first | rfl | (simp; done) | (simp [*]; done)), H', ⟨Nat.le_refl _⟩, by repeat (first | exact Drawn0.refl _ | apply Drawn0.step)⟩
    case round =>
      clear H'
      try clear c2
      try clear p2
      try clear c4
      try clear c4b0
      obtain ⟨x7_1, rfl, HA, HK1, ⟨m1, rfl⟩⟩ := hrel
      cases gk with
      | zero => exact absurd HA.out (by simp [valiseref12_stands.l0])
      | succ k1 =>
        have H := HA.out
        clear HA
        simp only [valiseref12_stands.l0] at H
        by_cases c5 : x7_1 < (l2.length : Int)
        · rw [if_pos c5] at H
          have c5b0 : decide (x7_1 < (l2.length : Int)) = true := decide_eq_true c5
          clear c5
          obtain ⟨ji6, hji6⟩ : ∃ j_ : Int, (wrap64 (a1 + x7_1)) = j_ := ⟨_, rfl⟩
          replace H : (if 0 ≤ (ji6) then (if (ji6) < (l0.length : Int) then (if 0 ≤ x7_1 then (if (rd l0 (ji6)) = (rd l2 x7_1) then (valiseref12_stands.l0 k1 l0 a1 l2 (wrap64 (x7_1 + 1))) else (some false)) else (none)) else (none)) else (none)) = some r := by first | (rw [hji6] at H; exact H) | (simp only [hji6] at H ⊢; exact H)
          have hji6w : (IntKind.i64.wrap (a1 + x7_1)) = ji6 := (i64_w _).trans hji6
          by_cases c7 : 0 ≤ (ji6)
          · rw [if_pos c7] at H
            have c7b0 : decide (0 ≤ (ji6)) = true := decide_eq_true c7
            clear c7
            by_cases c8 : (ji6) < (l0.length : Int)
            · rw [if_pos c8] at H
              have c8b0 : decide ((ji6) < (l0.length : Int)) = true := decide_eq_true c8
              clear c8
              by_cases c9 : 0 ≤ x7_1
              · rw [if_pos c9] at H
                have c9b0 : decide (0 ≤ x7_1) = true := decide_eq_true c9
                clear c9
                by_cases c10 : (rd l0 (ji6)) = (rd l2 x7_1)
                · rw [if_pos c10] at H
                  have c10b0 : ((rd l0 (ji6)) == (rd l2 x7_1)) = true := beq_iff_eq.mpr c10
                  have c10b1 : ((rd l0 (ji6)) != (rd l2 x7_1)) = false := bne_eq_false_iff_eq.mpr c10
                  clear c10
                  have H' := Aside0.mk H
                  clear H
                  have p135 : 0 ≤ ((ji6) : Int) := of_decide_eq_true (by first | (with_reducible assumption) | assumption)
                  have q135 : (ji6) < (l0.length : Int) := of_decide_eq_true (by first | (with_reducible assumption) | assumption)
                  obtain ⟨ad135, e135, hx135_0⟩ := Kd.at_int HR0.out (ji6) p135 q135
                  cases e135
                  replace p135 := eq_true p135
                  replace q135 := eq_true q135
                  have p136 : 0 ≤ (x7_1 : Int) := of_decide_eq_true (by first | (with_reducible assumption) | assumption)
                  have q136 : x7_1 < (l2.length : Int) := of_decide_eq_true (by first | (with_reducible assumption) | assumption)
                  obtain ⟨ad136, e136, hx136_0⟩ := Kd.at_int HR2.out x7_1 p136 q136
                  cases e136
                  replace p136 := eq_true p136
                  replace q136 := eq_true q136
                  go_wp2
                  repeat (go_quiet (fail); try go_wp2)
                  go_roundg k1
                  case measure => have := HK1.out; omega
                  case rel => exact ⟨(wrap64 (x7_1 + 1)), (by first | rfl | (simp; done) | (simp [*]; done)), H', ⟨by have := HK1.out; omega⟩, by repeat (first | exact Drawn0.refl _ | apply Drawn0.step)⟩
                · rw [if_neg c10] at H
                  have c10b0 : ((rd l0 (ji6)) == (rd l2 x7_1)) = false := beq_eq_false_iff_ne.mpr c10
                  have c10b1 : ((rd l0 (ji6)) != (rd l2 x7_1)) = true := bne_iff_ne.mpr c10
                  obtain rfl := Option.some.inj H
                  have p135 : 0 ≤ ((ji6) : Int) := of_decide_eq_true (by first | (with_reducible assumption) | assumption)
                  have q135 : (ji6) < (l0.length : Int) := of_decide_eq_true (by first | (with_reducible assumption) | assumption)
                  obtain ⟨ad135, e135, hx135_0⟩ := Kd.at_int HR0.out (ji6) p135 q135
                  cases e135
                  replace p135 := eq_true p135
                  replace q135 := eq_true q135
                  have p136 : 0 ≤ (x7_1 : Int) := of_decide_eq_true (by first | (with_reducible assumption) | assumption)
                  have q136 : x7_1 < (l2.length : Int) := of_decide_eq_true (by first | (with_reducible assumption) | assumption)
                  obtain ⟨ad136, e136, hx136_0⟩ := Kd.at_int HR2.out x7_1 p136 q136
                  cases e136
                  replace p136 := eq_true p136
                  replace q136 := eq_true q136
                  go_wp2
                  repeat (go_quiet (fail); try go_wp2)
                  go_ret
                  exact ⟨by first | rfl | (simp; done) | (simp only [← hji6] <;> (first | rfl | simp)) | (simp [*]; done), by repeat (first | exact Drawn0.refl _ | apply Drawn0.step)⟩
              · rw [if_neg c9] at H
                exact absurd H (by simp)
            · rw [if_neg c8] at H
              exact absurd H (by simp)
          · rw [if_neg c7] at H
            exact absurd H (by simp)
        · rw [if_neg c5] at H
          have c5b0 : decide (x7_1 < (l2.length : Int)) = false := decide_eq_false c5
          clear c5
          obtain rfl := Option.some.inj H
          go_wp2
          repeat (go_quiet (fail); try go_wp2)
          go_ret
          exact ⟨by first | rfl | (simp; done) | (simp [*]; done), by repeat (first | exact Drawn0.refl _ | apply Drawn0.step)⟩

/-! ### valiseref12_GetDescriptor: function 19 -/
def valiseref12_GetDescriptor.j0 : Nat → List Int → Int → Bool → Int → Int → Int → Int → Int → Int → Int → Int → ByteArray → ByteArray → Option (Int × Int)
  | 0, _, _, _, _, _, _, _, _, _, _, _, _, _ => none
  | k + 1, x0, x1, x18, x138000, x138001, x138002, x138003, x138004, x138005, x138006, x138007, x138008, x138009 => if x18 = true then (some (0, 1)) else ((valiseref12_PutDescriptor.f k x138000 x138001 x138002 x138003 x138004 x138005 x138006 x138007 x138008 x138009 true).bind fun bt138 => (if bt138.2 = 0 then ((valiseref12_stands.f k x0 x1 bt138.1).bind fun t142 => (if t142 = true then (some (16, 0)) else (if 4 ≤ (bt138.1.length : Int) then ((valiseref12_stands.f k x0 x1 (bt138.1.drop 4)).bind fun t147 => (if t147 = true then (some (12, 0)) else (if (wrap64 ((x0.length : Int) - x1)) < 12 then (some (0, 122)) else (some (0, 123))))) else (none)))) else (some (0, bt138.2))))
def valiseref12_GetDescriptor.f (k : Nat) (l0 : List Int) (a1 : Int) (a2_0 : Int) (a2_1 : Int) (a2_2 : Int) (a2_3 : Int) (a2_4 : Int) (a2_5 : Int) (a2_6 : Int) (a2_7 : Int) (a2_8 : ByteArray) (a2_9 : ByteArray) : Option (Int × Int) := if a1 < 0 then (valiseref12_GetDescriptor.j0 k l0 a1 true a2_0 a2_1 a2_2 a2_3 a2_4 a2_5 a2_6 a2_7 a2_8 a2_9) else (valiseref12_GetDescriptor.j0 k l0 a1 (decide (a1 > (l0.length : Int))) a2_0 a2_1 a2_2 a2_3 a2_4 a2_5 a2_6 a2_7 a2_8 a2_9)
theorem valiseref12_GetDescriptor.mono_l : ∀ k, (∀ y0 y1 y2 y3 y4 y5 y6 y7 y8 y9 y10 y11 y12, LeO (valiseref12_GetDescriptor.j0 k y0 y1 y2 y3 y4 y5 y6 y7 y8 y9 y10 y11 y12) (valiseref12_GetDescriptor.j0 (k + 1) y0 y1 y2 y3 y4 y5 y6 y7 y8 y9 y10 y11 y12))
  | 0 => fun _ _ _ _ _ _ _ _ _ _ _ _ _ r h => by simp [valiseref12_GetDescriptor.j0] at h
  | k + 1 => by
    have ih0 := valiseref12_GetDescriptor.mono_l k
    · intro y0 y1 y2 y3 y4 y5 y6 y7 y8 y9 y10 y11 y12
      unfold valiseref12_GetDescriptor.j0
      repeat' first
      | (with_reducible exact ih0 _ _ _ _ _ _ _ _ _ _ _ _ _)
      | (with_reducible exact valiseref12_PutDescriptor.mono _ _ _ _ _ _ _ _ _ _ _ _)
      | (with_reducible exact valiseref12_stands.mono _ _ _ _)
      | (with_reducible exact LeO.refl _)
      | (with_reducible exact LeO.none _)
      | (with_reducible refine LeO.ite ?_ ?_)
      | (with_reducible refine LeO.bind ?_ (fun _ => ?_))
      | exact ih0 _ _ _ _ _ _ _ _ _ _ _ _ _
      | exact valiseref12_PutDescriptor.mono _ _ _ _ _ _ _ _ _ _ _ _
      | exact valiseref12_stands.mono _ _ _ _
      | exact LeO.none _
      | refine LeO.ite ?_ ?_
      | refine LeO.bind ?_ (fun _ => ?_)
theorem valiseref12_GetDescriptor.mono : ∀ a0 a1 a2 a3 a4 a5 a6 a7 a8 a9 a10 a11 k, LeO (valiseref12_GetDescriptor.f k a0 a1 a2 a3 a4 a5 a6 a7 a8 a9 a10 a11) (valiseref12_GetDescriptor.f (k + 1) a0 a1 a2 a3 a4 a5 a6 a7 a8 a9 a10 a11) := by
  intro a0 a1 a2 a3 a4 a5 a6 a7 a8 a9 a10 a11 k
  have ih0 := valiseref12_GetDescriptor.mono_l k
  unfold valiseref12_GetDescriptor.f
  repeat' first
      | (with_reducible exact ih0 _ _ _ _ _ _ _ _ _ _ _ _ _)
      | (with_reducible exact valiseref12_PutDescriptor.mono _ _ _ _ _ _ _ _ _ _ _ _)
      | (with_reducible exact valiseref12_stands.mono _ _ _ _)
      | (with_reducible exact LeO.refl _)
      | (with_reducible exact LeO.none _)
      | (with_reducible refine LeO.ite ?_ ?_)
      | (with_reducible refine LeO.bind ?_ (fun _ => ?_))
      | exact ih0 _ _ _ _ _ _ _ _ _ _ _ _ _
      | exact valiseref12_PutDescriptor.mono _ _ _ _ _ _ _ _ _ _ _ _
      | exact valiseref12_stands.mono _ _ _ _
      | exact LeO.none _
      | refine LeO.ite ?_ ?_
      | refine LeO.bind ?_ (fun _ => ?_)
set_option maxHeartbeats 8000000 in
set_option maxRecDepth 100000 in
theorem valiseref12_GetDescriptor.calls (k : Nat) (A0 : Option Addr) (c0 : Nat) (l0 : List Int) (a1 : Int) (a2_0 : Int) (a2_1 : Int) (a2_2 : Int) (a2_3 : Int) (a2_4 : Int) (a2_5 : Int) (a2_6 : Int) (a2_7 : Int) (a2_8 : ByteArray) (a2_9 : ByteArray) (r1 : Int) (r2 : Int) (w : World) (hr0 : Kd.C (Kd.int .u8) w A0 l0.length l0) (hc0 : l0.length ≤ c0) (h : valiseref12_GetDescriptor.f k l0 a1 a2_0 a2_1 a2_2 a2_3 a2_4 a2_5 a2_6 a2_7 a2_8 a2_9 = some (r1, r2)) :
    Calls Try.prog 19 #[.slice A0 l0.length c0, .int .i64 a1, .agg #[.int .i64 a2_0, .int .i64 a2_1, .int .i64 a2_2, .int .i64 a2_3, .int .i64 a2_4, .int .u32 a2_5, .int .i64 a2_6, .int .i64 a2_7, .string a2_8, .string a2_9]] w fun e w' => e = .returned (.tuple #[.int .i64 r1, .int .i64 r2]) ∧ Below w.heap.size w w' := by
  have hu24 := Try.underlying24
  have HR0 := Aside0.mk hr0
  have HC0 := Aside0.mk hc0
  clear hr0 hc0
  have HB := Aside0.mk (Below.refl w.heap.size w)
  have H : (if a1 < 0 then (valiseref12_GetDescriptor.j0 k l0 a1 true a2_0 a2_1 a2_2 a2_3 a2_4 a2_5 a2_6 a2_7 a2_8 a2_9) else (valiseref12_GetDescriptor.j0 k l0 a1 (decide (a1 > (l0.length : Int))) a2_0 a2_1 a2_2 a2_3 a2_4 a2_5 a2_6 a2_7 a2_8 a2_9)) = some (r1, r2) := h
  clear h
  have HC4 := Aside0.mk H
  clear H
  go_enter Try.func19, Try.ntmps19
  go_upto_region 1 with (first | ((with_reducible refine gate_dst (N := 5) rfl ?_); (try (refine gate_guard (by rfl) ?_; dsimp only)); refine box_event ?hg (N := 5) ?hd (cs := #[.int .i64 a2_0, .int .i64 a2_1, .int .i64 a2_2, .int .i64 a2_3, .int .i64 a2_4, .int .u32 a2_5, .int .i64 a2_6, .int .i64 a2_7, .string a2_8, .string a2_9]) (t := 24) ?hr ?_; (case hd => rfl); (case hg => rfl); (case hr => first | (go_simp; done) | (go_simp; rfl)); intro gb137 hg w5 hbox hb; have n0_ := Aside0.mk (below_step (by repeat (first | (with_reducible first | exact HB.out | apply below_alloc | apply pw_below_drewN | apply below_drew1) | exact HB.out)) hb); have n1_ := Aside0.mk (hbox); have n2_ := Aside0.mk ((by rw [hg]; exact (below_size (by repeat (first | (with_reducible first | exact HB.out | apply below_alloc | apply pw_below_drewN | apply below_drew1) | exact HB.out))) : w.heap.size ≤ gb137)); have n3_ := Aside0.mk ((by rw [hg]; exact (below_size (by repeat (first | (with_reducible first | exact HB.out | apply below_alloc | apply pw_below_drewN | apply below_drew1) | exact HB.out))) : w.heap.size ≤ gb137)); clear HB; have HB := n0_; have BK137 := n1_; have GW137 := n2_; have GE137 := n3_; clear n0_ n1_ n2_ n3_; clear hb hbox hg))
  (try simp only [Act.put, List.setIfInBounds_toArray, List.set_cons_zero, List.set_cons_succ])
  go_cut [18] (fun v18 wc => ∃ (kq : Nat) (x18_3 : Bool), v18 = .bool x18_3 ∧ Aside0 (valiseref12_GetDescriptor.j0 kq l0 a1 x18_3 a2_0 a2_1 a2_2 a2_3 a2_4 a2_5 a2_6 a2_7 a2_8 a2_9 = some (r1, r2)) ∧ Aside0 (kq ≤ k) ∧ Aside0 (wc.heap[gb137]? = some (.cells #[.int .i64 a2_0, .int .i64 a2_1, .int .i64 a2_2, .int .i64 a2_3, .int .i64 a2_4, .int .u32 a2_5, .int .i64 a2_6, .int .i64 a2_7, .string a2_8, .string a2_9] 24 (0, 0))) ∧ Aside0 (Below w.heap.size w wc))
  case first =>
    have H := HC4.out
    clear HC4
    by_cases c6 : a1 < 0
    · rw [if_pos c6] at H
      have c6b0 : decide (a1 < 0) = true := decide_eq_true c6
      clear c6
      (first | rw [c6b0] | (simp only [i64_w, i32_w]; rw [c6b0]) | skip)
      have H' := Aside0.mk H
      clear H
      go_wp2
      go_meet
      case rel => exact ⟨_, (true), (by first | rfl | (simp; done) | (simp [*]; done)), H', ⟨by first | omega | exact Nat.le_refl _⟩, ⟨by (with_reducible repeat (first | refine blk_drewN ?_ _ | refine blk_drew ?_ | refine blk_alloc ?_ _)); exact BK137.out⟩, ⟨by repeat (first | (with_reducible first | exact HB.out | apply below_alloc | apply pw_below_drewN | apply below_drew1 | refine below_set ?_ GE137.out) | exact HB.out)⟩⟩
    · rw [if_neg c6] at H
      have c6b0 : decide (a1 < 0) = false := decide_eq_false c6
      clear c6
      (first | rw [c6b0] | (simp only [i64_w, i32_w]; rw [c6b0]) | skip)
      have H' := Aside0.mk H
      clear H
      go_wp2
      go_meet
      case rel => exact ⟨_, (decide (a1 > (l0.length : Int))), (by first | rfl | (simp; done) | (simp [*]; done)), H', ⟨by first | omega | exact Nat.le_refl _⟩, ⟨by (with_reducible repeat (first | refine blk_drewN ?_ _ | refine blk_drew ?_ | refine blk_alloc ?_ _)); exact BK137.out⟩, ⟨by repeat (first | (with_reducible first | exact HB.out | apply below_alloc | apply pw_below_drewN | apply below_drew1 | refine below_set ?_ GE137.out) | exact HB.out)⟩⟩
  case rest =>
    clear HC4
    try clear c1
    try clear p2
    try clear c6
    try clear c6b0
    obtain ⟨kq, x18_3, rfl, HA, HJ3, BK137, HB⟩ := hcut
    cases kq with
    | zero => exact absurd HA.out (by simp [valiseref12_GetDescriptor.j0])
    | succ kj3 =>
      have H := HA.out
      clear HA
      simp only [valiseref12_GetDescriptor.j0] at H
      by_cases c7 : x18_3 = true
      · subst c7
        have H1 : (some (0, 1)) = some (r1, r2) := by rw [if_pos rfl] at H; exact H
        clear H
        have H := H1
        clear H1
        simp only [Option.some.injEq, Prod.mk.injEq] at H
        obtain ⟨rfl, rfl⟩ := H
        go_wp2
        go_ret2
        exact ⟨by first | rfl | (simp [errW_none, errW_some] <;> rfl) | (simp [*, errW_none, errW_some] <;> rfl), by repeat (first | (with_reducible first | exact HB.out | apply below_alloc | apply pw_below_drewN | apply below_drew1 | refine below_set ?_ GE137.out) | exact HB.out)⟩
      · replace c7 := Bool.eq_false_iff.mpr c7
        subst c7
        have H1 : ((valiseref12_PutDescriptor.f kj3 a2_0 a2_1 a2_2 a2_3 a2_4 a2_5 a2_6 a2_7 a2_8 a2_9 true).bind fun bt138 => (if bt138.2 = 0 then ((valiseref12_stands.f kj3 l0 a1 bt138.1).bind fun t142 => (if t142 = true then (some (16, 0)) else (if 4 ≤ (bt138.1.length : Int) then ((valiseref12_stands.f kj3 l0 a1 (bt138.1.drop 4)).bind fun t147 => (if t147 = true then (some (12, 0)) else (if (wrap64 ((l0.length : Int) - a1)) < 12 then (some (0, 122)) else (some (0, 123))))) else (none)))) else (some (0, bt138.2)))) = some (r1, r2) := by rw [if_neg (show ¬ (false = true) by decide)] at H; exact H
        clear H
        have H := H1
        clear H1
        replace H := Option.bind_eq_some_iff.mp H
        obtain ⟨⟨t138, t141⟩, A80, H⟩ := H
        replace H : (if t141 = 0 then ((valiseref12_stands.f kj3 l0 a1 t138).bind fun t142 => (if t142 = true then (some (16, 0)) else (if 4 ≤ (t138.length : Int) then ((valiseref12_stands.f kj3 l0 a1 (t138.drop 4)).bind fun t147 => (if t147 = true then (some (12, 0)) else (if (wrap64 ((l0.length : Int) - a1)) < 12 then (some (0, 122)) else (some (0, 123))))) else (none)))) else (some (0, t141))) = some (r1, r2) := H
        have A8 := Aside0.mk A80
        clear A80
        by_cases c9 : t141 = 0
        · rw [if_pos c9] at H
          have c9b0 : (t141 == 0) = true := beq_iff_eq.mpr c9
          have c9b1 : (t141 != 0) = false := bne_eq_false_iff_eq.mpr c9
          clear c9
          replace H := Option.bind_eq_some_iff.mp H
          obtain ⟨t142, A100, H⟩ := H
          replace H : (if t142 = true then (some (16, 0)) else (if 4 ≤ (t138.length : Int) then ((valiseref12_stands.f kj3 l0 a1 (t138.drop 4)).bind fun t147 => (if t147 = true then (some (12, 0)) else (if (wrap64 ((l0.length : Int) - a1)) < 12 then (some (0, 122)) else (some (0, 123))))) else (none))) = some (r1, r2) := H
          have A10 := Aside0.mk A100
          clear A100
          by_cases c11 : t142 = true
          · subst c11
            have H1 : (some (16, 0)) = some (r1, r2) := by rw [if_pos rfl] at H; exact H
            clear H
            have H := H1
            clear H1
            simp only [Option.some.injEq, Prod.mk.injEq] at H
            obtain ⟨rfl, rfl⟩ := H
            have hcz12_0 : wc.cell? ⟨gb137, 0, none⟩ = some (.int .i64 a2_0) := (blk_cell BK137.out 0).trans rfl
            have hcz12_1 : wc.cell? ⟨gb137, 1, none⟩ = some (.int .i64 a2_1) := (blk_cell BK137.out 1).trans rfl
            have hcz12_2 : wc.cell? ⟨gb137, 2, none⟩ = some (.int .i64 a2_2) := (blk_cell BK137.out 2).trans rfl
            have hcz12_3 : wc.cell? ⟨gb137, 3, none⟩ = some (.int .i64 a2_3) := (blk_cell BK137.out 3).trans rfl
            have hcz12_4 : wc.cell? ⟨gb137, 4, none⟩ = some (.int .i64 a2_4) := (blk_cell BK137.out 4).trans rfl
            have hcz12_5 : wc.cell? ⟨gb137, 5, none⟩ = some (.int .u32 a2_5) := (blk_cell BK137.out 5).trans rfl
            have hcz12_6 : wc.cell? ⟨gb137, 6, none⟩ = some (.int .i64 a2_6) := (blk_cell BK137.out 6).trans rfl
            have hcz12_7 : wc.cell? ⟨gb137, 7, none⟩ = some (.int .i64 a2_7) := (blk_cell BK137.out 7).trans rfl
            have hcz12_8 : wc.cell? ⟨gb137, 8, none⟩ = some (.string a2_8) := (blk_cell BK137.out 8).trans rfl
            have hcz12_9 : wc.cell? ⟨gb137, 9, none⟩ = some (.string a2_9) := (blk_cell BK137.out 9).trans rfl
            have hfz12_0 := blk_frozen BK137.out 0
            have hfz12_1 := blk_frozen BK137.out 1
            have hfz12_2 := blk_frozen BK137.out 2
            have hfz12_3 := blk_frozen BK137.out 3
            have hfz12_4 := blk_frozen BK137.out 4
            have hfz12_5 := blk_frozen BK137.out 5
            have hfz12_6 := blk_frozen BK137.out 6
            have hfz12_7 := blk_frozen BK137.out 7
            have hfz12_8 := blk_frozen BK137.out 8
            have hfz12_9 := blk_frozen BK137.out 9
            go_wp2_with (first | ((with_reducible refine gate_callee (f := 14) rfl ?_); refine goesL_ (some 21) rfl rfl Try.func14 (by kernel_rfl) rfl #[.agg #[.int .i64 a2_0, .int .i64 a2_1, .int .i64 a2_2, .int .i64 a2_3, .int .i64 a2_4, .int .u32 a2_5, .int .i64 a2_6, .int .i64 a2_7, .string a2_8, .string a2_9], .bool true] rfl (by (try simp only [List.map_toArray, List.map_cons, List.map_nil]); first | done | rfl | (simp only [List.length_drop, List.length_take]; rfl)) ?_; (with_reducible refine (valiseref12_PutDescriptor.calls kj3 a2_0 a2_1 a2_2 a2_3 a2_4 a2_5 a2_6 a2_7 a2_8 a2_9 true t138 t141 _ A8.out).mono ?_); rintro e w13 ⟨v139, rfl, ho0, hb⟩; refine ⟨_, rfl, ?_⟩; have n0_ := Aside0.mk (Kd.R_lower ho0 (below_size (by repeat (first | (with_reducible first | exact HB.out | apply below_alloc | apply pw_below_drewN | apply below_drew1 | refine below_set ?_ GE137.out) | exact HB.out)))); have n1_ := Aside0.mk (blk_below (g := gb137) (o := .cells #[.int .i64 a2_0, .int .i64 a2_1, .int .i64 a2_2, .int .i64 a2_3, .int .i64 a2_4, .int .u32 a2_5, .int .i64 a2_6, .int .i64 a2_7, .string a2_8, .string a2_9] 24 (0, 0)) (by (with_reducible repeat (first | refine blk_drewN ?_ _ | refine blk_drew ?_ | refine blk_alloc ?_ _)); exact BK137.out) hb); have n2_ := Aside0.mk (below_step (by repeat (first | (with_reducible first | exact HB.out | apply below_alloc | apply pw_below_drewN | apply below_drew1 | refine below_set ?_ GE137.out) | exact HB.out)) hb); clear BK137; clear HB; have HO140 := n0_; have BK137 := n1_; have HB := n2_; clear n0_ n1_ n2_; (try clear hb); (try clear hb2); (try clear hk); (try clear hi); (try clear ho0); obtain ⟨Ao14, co14, eo14⟩ := Kd.R_slice HO140.out; subst eo14) | ((with_reducible refine gate_callee (f := 54) rfl ?_); refine goesL_ (some 30) rfl rfl Try.func54 (by kernel_rfl) rfl #[.slice A0 l0.length c0, .int .i64 a1, .slice Ao14 t138.length co14] rfl (by (try simp only [List.map_toArray, List.map_cons, List.map_nil]); first | done | rfl | (simp only [List.length_drop, List.length_take]; rfl)) ?_; (with_reducible refine (valiseref12_stands.calls kj3 _ _ l0 a1 _ _ t138 true _ ?side1 ?side2 ?side3 ?side4 A10.out).mono ?_); (case side1 => repeat (first | exact (Kd.C_below HR0.out HB.out) | (with_reducible refine Kd.C_alloc ?_ _) | (with_reducible refine Kd.C_drewN ?_ _) | (with_reducible refine Kd.C_drew ?_))); (case side2 => exact HC0.out); (case side3 => repeat (first | exact (Kd.R_reads' HO140.out).2.2 | (with_reducible refine Kd.C_alloc ?_ _) | (with_reducible refine Kd.C_drewN ?_ _) | (with_reducible refine Kd.C_drew ?_))); (case side4 => exact (Kd.R_reads' HO140.out).2.1); rintro e w' ⟨rfl, ⟨nd, rfl⟩⟩; refine ⟨_, rfl, ?_⟩))
            go_ret2
            exact ⟨by first | rfl | (simp [errW_none, errW_some] <;> rfl) | (simp [*, errW_none, errW_some] <;> rfl), by repeat (first | (with_reducible first | exact HB.out | apply below_alloc | apply pw_below_drewN | apply below_drew1 | refine below_set ?_ GE137.out) | exact HB.out)⟩
          · replace c11 := Bool.eq_false_iff.mpr c11
            subst c11
            have H1 : (if 4 ≤ (t138.length : Int) then ((valiseref12_stands.f kj3 l0 a1 (t138.drop 4)).bind fun t147 => (if t147 = true then (some (12, 0)) else (if (wrap64 ((l0.length : Int) - a1)) < 12 then (some (0, 122)) else (some (0, 123))))) else (none)) = some (r1, r2) := by rw [if_neg (show ¬ (false = true) by decide)] at H; exact H
            clear H
            have H := H1
            clear H1
            by_cases c15 : 4 ≤ (t138.length : Int)
            · rw [if_pos c15] at H
              have c15b0 := eq_true c15
              have c15b1 : decide (4 ≤ (t138.length : Int)) = true := decide_eq_true c15
              clear c15
              obtain ⟨y143, hy143⟩ : ∃ y_ : List Int, y_ = (t138.drop 4) := ⟨_, rfl⟩
              replace H : ((valiseref12_stands.f kj3 l0 a1 y143).bind fun t147 => (if t147 = true then (some (12, 0)) else (if (wrap64 ((l0.length : Int) - a1)) < 12 then (some (0, 122)) else (some (0, 123))))) = some (r1, r2) := by first | (rw [hy143]; with_reducible exact H) | (have H2_ := (Option.bind_some _ _).symm.trans H; rw [hy143]; with_reducible exact H2_) | (have H2_ := (Option.bind_some _ _).symm.trans H; with_reducible exact H2_) | with_reducible exact H | (rw [hy143]; exact H) | exact H
              have Ny143 := Aside0.mk hy143
              clear hy143
              replace H := Option.bind_eq_some_iff.mp H
              obtain ⟨t147, A160, H⟩ := H
              replace H : (if t147 = true then (some (12, 0)) else (if (wrap64 ((l0.length : Int) - a1)) < 12 then (some (0, 122)) else (some (0, 123)))) = some (r1, r2) := H
              have A16 := Aside0.mk A160
              clear A160
              by_cases c17 : t147 = true
              · subst c17
                have H1 : (some (12, 0)) = some (r1, r2) := by rw [if_pos rfl] at H; exact H
                clear H
                have H := H1
                clear H1
                simp only [Option.some.injEq, Prod.mk.injEq] at H
                obtain ⟨rfl, rfl⟩ := H
                have hcz18_0 : wc.cell? ⟨gb137, 0, none⟩ = some (.int .i64 a2_0) := (blk_cell BK137.out 0).trans rfl
                have hcz18_1 : wc.cell? ⟨gb137, 1, none⟩ = some (.int .i64 a2_1) := (blk_cell BK137.out 1).trans rfl
                have hcz18_2 : wc.cell? ⟨gb137, 2, none⟩ = some (.int .i64 a2_2) := (blk_cell BK137.out 2).trans rfl
                have hcz18_3 : wc.cell? ⟨gb137, 3, none⟩ = some (.int .i64 a2_3) := (blk_cell BK137.out 3).trans rfl
                have hcz18_4 : wc.cell? ⟨gb137, 4, none⟩ = some (.int .i64 a2_4) := (blk_cell BK137.out 4).trans rfl
                have hcz18_5 : wc.cell? ⟨gb137, 5, none⟩ = some (.int .u32 a2_5) := (blk_cell BK137.out 5).trans rfl
                have hcz18_6 : wc.cell? ⟨gb137, 6, none⟩ = some (.int .i64 a2_6) := (blk_cell BK137.out 6).trans rfl
                have hcz18_7 : wc.cell? ⟨gb137, 7, none⟩ = some (.int .i64 a2_7) := (blk_cell BK137.out 7).trans rfl
                have hcz18_8 : wc.cell? ⟨gb137, 8, none⟩ = some (.string a2_8) := (blk_cell BK137.out 8).trans rfl
                have hcz18_9 : wc.cell? ⟨gb137, 9, none⟩ = some (.string a2_9) := (blk_cell BK137.out 9).trans rfl
                have hfz18_0 := blk_frozen BK137.out 0
                have hfz18_1 := blk_frozen BK137.out 1
                have hfz18_2 := blk_frozen BK137.out 2
                have hfz18_3 := blk_frozen BK137.out 3
                have hfz18_4 := blk_frozen BK137.out 4
                have hfz18_5 := blk_frozen BK137.out 5
                have hfz18_6 := blk_frozen BK137.out 6
                have hfz18_7 := blk_frozen BK137.out 7
                have hfz18_8 := blk_frozen BK137.out 8
                have hfz18_9 := blk_frozen BK137.out 9
                go_wp2_with (first | ((with_reducible refine gate_callee (f := 14) rfl ?_); refine goesL_ (some 21) rfl rfl Try.func14 (by kernel_rfl) rfl #[.agg #[.int .i64 a2_0, .int .i64 a2_1, .int .i64 a2_2, .int .i64 a2_3, .int .i64 a2_4, .int .u32 a2_5, .int .i64 a2_6, .int .i64 a2_7, .string a2_8, .string a2_9], .bool true] rfl (by (try simp only [List.map_toArray, List.map_cons, List.map_nil]); first | done | rfl | (simp only [List.length_drop, List.length_take]; rfl)) ?_; (with_reducible refine (valiseref12_PutDescriptor.calls kj3 a2_0 a2_1 a2_2 a2_3 a2_4 a2_5 a2_6 a2_7 a2_8 a2_9 true t138 t141 _ A8.out).mono ?_); rintro e w19 ⟨v139, rfl, ho0, hb⟩; refine ⟨_, rfl, ?_⟩; have n0_ := Aside0.mk (Kd.R_lower ho0 (below_size (by repeat (first | (with_reducible first | exact HB.out | apply below_alloc | apply pw_below_drewN | apply below_drew1 | refine below_set ?_ GE137.out) | exact HB.out)))); have n1_ := Aside0.mk (blk_below (g := gb137) (o := .cells #[.int .i64 a2_0, .int .i64 a2_1, .int .i64 a2_2, .int .i64 a2_3, .int .i64 a2_4, .int .u32 a2_5, .int .i64 a2_6, .int .i64 a2_7, .string a2_8, .string a2_9] 24 (0, 0)) (by (with_reducible repeat (first | refine blk_drewN ?_ _ | refine blk_drew ?_ | refine blk_alloc ?_ _)); exact BK137.out) hb); have n2_ := Aside0.mk (below_step (by repeat (first | (with_reducible first | exact HB.out | apply below_alloc | apply pw_below_drewN | apply below_drew1 | refine below_set ?_ GE137.out) | exact HB.out)) hb); clear BK137; clear HB; have HO140 := n0_; have BK137 := n1_; have HB := n2_; clear n0_ n1_ n2_; (try clear hb); (try clear hb2); (try clear hk); (try clear hi); (try clear ho0); obtain ⟨Ao20, co20, eo20⟩ := Kd.R_slice HO140.out; subst eo20) | ((with_reducible refine gate_callee (f := 54) rfl ?_); refine goesL_ (some 30) rfl rfl Try.func54 (by kernel_rfl) rfl #[.slice A0 l0.length c0, .int .i64 a1, .slice Ao20 t138.length co20] rfl (by (try simp only [List.map_toArray, List.map_cons, List.map_nil]); first | done | rfl | (simp only [List.length_drop, List.length_take]; rfl)) ?_; (with_reducible refine (valiseref12_stands.calls kj3 _ _ l0 a1 _ _ t138 false _ ?side1 ?side2 ?side3 ?side4 A10.out).mono ?_); (case side1 => repeat (first | exact (Kd.C_below HR0.out HB.out) | (with_reducible refine Kd.C_alloc ?_ _) | (with_reducible refine Kd.C_drewN ?_ _) | (with_reducible refine Kd.C_drew ?_))); (case side2 => exact HC0.out); (case side3 => repeat (first | exact (Kd.R_reads' HO140.out).2.2 | (with_reducible refine Kd.C_alloc ?_ _) | (with_reducible refine Kd.C_drewN ?_ _) | (with_reducible refine Kd.C_drew ?_))); (case side4 => exact (Kd.R_reads' HO140.out).2.1); rintro e w' ⟨rfl, ⟨nd, rfl⟩⟩; refine ⟨_, rfl, ?_⟩; have q21 : (4 : Int) ≤ ((t138.length : Int) : Int) := of_decide_eq_true (by first | (with_reducible assumption) | assumption); obtain ⟨i021, hi021, _, hsz21, _⟩ := info_parts info5; have hroom21 : t138.length ≤ co20 := (Kd.R_reads' HO140.out).2.1; have hC21 : Kd.C (Kd.int .u8) _ Ao20 t138.length t138 := (Kd.R_reads' HO140.out).2.2; have hcut21 := cut_from (P := Try.prog) 25 5 .i64 Try.underlying25 hi021 1 hsz21 Ao20 t138.length co20 4 (by omega) q21; have hr21 := Kd.C_drop (m := (4 : Int).toNat) (c := co20) hC21 (by omega) hroom21; obtain ⟨A21, hA21⟩ : ∃ A1, A1 = (if co20 = (4 : Int).toNat then Ao20 else (Ao20 : Option Addr).map (·.add ((4 : Int).toNat * 1))) := ⟨_, rfl⟩; obtain ⟨c21, hc21⟩ : ∃ c1, c1 = co20 - (4 : Int).toNat := ⟨_, rfl⟩; have hy21 : y143.length = t138.length - (4 : Int).toNat := (by rw [Ny143.out, List.length_drop] <;> omega); rw [show (t138).drop (4 : Int).toNat = y143 from Ny143.out.symm] at hr21; replace hr21 : Kd.C (Kd.int .u8) _ A21 y143.length y143 := (by rw [hA21]; exact hr21); rw [← hy21, ← hA21, ← hc21] at hcut21; have HR146 := Aside0.mk hr21; have HC146 := Aside0.mk (show y143.length ≤ c21 from by rw [hy21, hc21]; exact Nat.sub_le_sub_right hroom21 _); clear hr21 hC21 hroom21 hi021 hsz21 hc21; have KY21 := Aside0.mk hy21; have KA21 := Aside0.mk hA21; clear hy21 hA21; have KL21 := Aside0.mk (show 4 ≤ t138.length from by omega); replace q21 := eq_true q21) | ((with_reducible refine gate_callee (f := 54) rfl ?_); refine goesL_ (some 36) rfl rfl Try.func54 (by kernel_rfl) rfl #[.slice A0 l0.length c0, .int .i64 a1, .slice A21 y143.length c21] rfl (by (try simp only [List.map_toArray, List.map_cons, List.map_nil]); first | done | rfl | (simp only [List.length_drop, List.length_take]; rfl)) ?_; (with_reducible refine (valiseref12_stands.calls kj3 _ _ l0 a1 _ _ y143 true _ ?side1 ?side2 ?side3 ?side4 A16.out).mono ?_); (case side1 => repeat (first | exact (Kd.C_below HR0.out (by repeat (first | (with_reducible first | exact HB.out | apply below_alloc | apply pw_below_drewN | apply below_drew1 | refine below_set ?_ GE137.out) | exact HB.out))) | (with_reducible refine Kd.C_alloc ?_ _) | (with_reducible refine Kd.C_drewN ?_ _) | (with_reducible refine Kd.C_drew ?_))); (case side2 => exact HC0.out); (case side3 => repeat (first | exact (by repeat (first | (with_reducible exact HR146.out) | (with_reducible refine Kd.C_alloc ?_ _) | (with_reducible refine Kd.C_drewN ?_ _) | (with_reducible refine Kd.C_drew ?_) | exact HR146.out)) | (with_reducible refine Kd.C_alloc ?_ _) | (with_reducible refine Kd.C_drewN ?_ _) | (with_reducible refine Kd.C_drew ?_))); (case side4 => exact HC146.out); rintro e w' ⟨rfl, ⟨nd, rfl⟩⟩; refine ⟨_, rfl, ?_⟩))
                go_ret2
                exact ⟨by first | rfl | (simp [errW_none, errW_some] <;> rfl) | (simp [*, errW_none, errW_some] <;> rfl), by repeat (first | (with_reducible first | exact HB.out | apply below_alloc | apply pw_below_drewN | apply below_drew1 | refine below_set ?_ GE137.out) | exact HB.out)⟩
              · replace c17 := Bool.eq_false_iff.mpr c17
                subst c17
                have H1 : (if (wrap64 ((l0.length : Int) - a1)) < 12 then (some (0, 122)) else (some (0, 123))) = some (r1, r2) := by rw [if_neg (show ¬ (false = true) by decide)] at H; exact H
                clear H
                have H := H1
                clear H1
                by_cases c22 : (wrap64 ((l0.length : Int) - a1)) < 12
                · rw [if_pos c22] at H
                  have c22b0 : decide ((wrap64 ((l0.length : Int) - a1)) < 12) = true := decide_eq_true c22
                  clear c22
                  simp only [Option.some.injEq, Prod.mk.injEq] at H
                  obtain ⟨rfl, rfl⟩ := H
                  have hcz23_0 : wc.cell? ⟨gb137, 0, none⟩ = some (.int .i64 a2_0) := (blk_cell BK137.out 0).trans rfl
                  have hcz23_1 : wc.cell? ⟨gb137, 1, none⟩ = some (.int .i64 a2_1) := (blk_cell BK137.out 1).trans rfl
                  have hcz23_2 : wc.cell? ⟨gb137, 2, none⟩ = some (.int .i64 a2_2) := (blk_cell BK137.out 2).trans rfl
                  have hcz23_3 : wc.cell? ⟨gb137, 3, none⟩ = some (.int .i64 a2_3) := (blk_cell BK137.out 3).trans rfl
                  have hcz23_4 : wc.cell? ⟨gb137, 4, none⟩ = some (.int .i64 a2_4) := (blk_cell BK137.out 4).trans rfl
                  have hcz23_5 : wc.cell? ⟨gb137, 5, none⟩ = some (.int .u32 a2_5) := (blk_cell BK137.out 5).trans rfl
                  have hcz23_6 : wc.cell? ⟨gb137, 6, none⟩ = some (.int .i64 a2_6) := (blk_cell BK137.out 6).trans rfl
                  have hcz23_7 : wc.cell? ⟨gb137, 7, none⟩ = some (.int .i64 a2_7) := (blk_cell BK137.out 7).trans rfl
                  have hcz23_8 : wc.cell? ⟨gb137, 8, none⟩ = some (.string a2_8) := (blk_cell BK137.out 8).trans rfl
                  have hcz23_9 : wc.cell? ⟨gb137, 9, none⟩ = some (.string a2_9) := (blk_cell BK137.out 9).trans rfl
                  have hfz23_0 := blk_frozen BK137.out 0
                  have hfz23_1 := blk_frozen BK137.out 1
                  have hfz23_2 := blk_frozen BK137.out 2
                  have hfz23_3 := blk_frozen BK137.out 3
                  have hfz23_4 := blk_frozen BK137.out 4
                  have hfz23_5 := blk_frozen BK137.out 5
                  have hfz23_6 := blk_frozen BK137.out 6
                  have hfz23_7 := blk_frozen BK137.out 7
                  have hfz23_8 := blk_frozen BK137.out 8
                  have hfz23_9 := blk_frozen BK137.out 9
                  go_wp2_with (first | ((with_reducible refine gate_callee (f := 14) rfl ?_); refine goesL_ (some 21) rfl rfl Try.func14 (by kernel_rfl) rfl #[.agg #[.int .i64 a2_0, .int .i64 a2_1, .int .i64 a2_2, .int .i64 a2_3, .int .i64 a2_4, .int .u32 a2_5, .int .i64 a2_6, .int .i64 a2_7, .string a2_8, .string a2_9], .bool true] rfl (by (try simp only [List.map_toArray, List.map_cons, List.map_nil]); first | done | rfl | (simp only [List.length_drop, List.length_take]; rfl)) ?_; (with_reducible refine (valiseref12_PutDescriptor.calls kj3 a2_0 a2_1 a2_2 a2_3 a2_4 a2_5 a2_6 a2_7 a2_8 a2_9 true t138 t141 _ A8.out).mono ?_); rintro e w24 ⟨v139, rfl, ho0, hb⟩; refine ⟨_, rfl, ?_⟩; have n0_ := Aside0.mk (Kd.R_lower ho0 (below_size (by repeat (first | (with_reducible first | exact HB.out | apply below_alloc | apply pw_below_drewN | apply below_drew1 | refine below_set ?_ GE137.out) | exact HB.out)))); have n1_ := Aside0.mk (blk_below (g := gb137) (o := .cells #[.int .i64 a2_0, .int .i64 a2_1, .int .i64 a2_2, .int .i64 a2_3, .int .i64 a2_4, .int .u32 a2_5, .int .i64 a2_6, .int .i64 a2_7, .string a2_8, .string a2_9] 24 (0, 0)) (by (with_reducible repeat (first | refine blk_drewN ?_ _ | refine blk_drew ?_ | refine blk_alloc ?_ _)); exact BK137.out) hb); have n2_ := Aside0.mk (below_step (by repeat (first | (with_reducible first | exact HB.out | apply below_alloc | apply pw_below_drewN | apply below_drew1 | refine below_set ?_ GE137.out) | exact HB.out)) hb); clear BK137; clear HB; have HO140 := n0_; have BK137 := n1_; have HB := n2_; clear n0_ n1_ n2_; (try clear hb); (try clear hb2); (try clear hk); (try clear hi); (try clear ho0); obtain ⟨Ao25, co25, eo25⟩ := Kd.R_slice HO140.out; subst eo25) | ((with_reducible refine gate_callee (f := 54) rfl ?_); refine goesL_ (some 30) rfl rfl Try.func54 (by kernel_rfl) rfl #[.slice A0 l0.length c0, .int .i64 a1, .slice Ao25 t138.length co25] rfl (by (try simp only [List.map_toArray, List.map_cons, List.map_nil]); first | done | rfl | (simp only [List.length_drop, List.length_take]; rfl)) ?_; (with_reducible refine (valiseref12_stands.calls kj3 _ _ l0 a1 _ _ t138 false _ ?side1 ?side2 ?side3 ?side4 A10.out).mono ?_); (case side1 => repeat (first | exact (Kd.C_below HR0.out HB.out) | (with_reducible refine Kd.C_alloc ?_ _) | (with_reducible refine Kd.C_drewN ?_ _) | (with_reducible refine Kd.C_drew ?_))); (case side2 => exact HC0.out); (case side3 => repeat (first | exact (Kd.R_reads' HO140.out).2.2 | (with_reducible refine Kd.C_alloc ?_ _) | (with_reducible refine Kd.C_drewN ?_ _) | (with_reducible refine Kd.C_drew ?_))); (case side4 => exact (Kd.R_reads' HO140.out).2.1); rintro e w' ⟨rfl, ⟨nd, rfl⟩⟩; refine ⟨_, rfl, ?_⟩; have q26 : (4 : Int) ≤ ((t138.length : Int) : Int) := of_decide_eq_true (by first | (with_reducible assumption) | assumption); obtain ⟨i026, hi026, _, hsz26, _⟩ := info_parts info5; have hroom26 : t138.length ≤ co25 := (Kd.R_reads' HO140.out).2.1; have hC26 : Kd.C (Kd.int .u8) _ Ao25 t138.length t138 := (Kd.R_reads' HO140.out).2.2; have hcut26 := cut_from (P := Try.prog) 25 5 .i64 Try.underlying25 hi026 1 hsz26 Ao25 t138.length co25 4 (by omega) q26; have hr26 := Kd.C_drop (m := (4 : Int).toNat) (c := co25) hC26 (by omega) hroom26; obtain ⟨A26, hA26⟩ : ∃ A1, A1 = (if co25 = (4 : Int).toNat then Ao25 else (Ao25 : Option Addr).map (·.add ((4 : Int).toNat * 1))) := ⟨_, rfl⟩; obtain ⟨c26, hc26⟩ : ∃ c1, c1 = co25 - (4 : Int).toNat := ⟨_, rfl⟩; have hy26 : y143.length = t138.length - (4 : Int).toNat := (by rw [Ny143.out, List.length_drop] <;> omega); rw [show (t138).drop (4 : Int).toNat = y143 from Ny143.out.symm] at hr26; replace hr26 : Kd.C (Kd.int .u8) _ A26 y143.length y143 := (by rw [hA26]; exact hr26); rw [← hy26, ← hA26, ← hc26] at hcut26; have HR146 := Aside0.mk hr26; have HC146 := Aside0.mk (show y143.length ≤ c26 from by rw [hy26, hc26]; exact Nat.sub_le_sub_right hroom26 _); clear hr26 hC26 hroom26 hi026 hsz26 hc26; have KY26 := Aside0.mk hy26; have KA26 := Aside0.mk hA26; clear hy26 hA26; have KL26 := Aside0.mk (show 4 ≤ t138.length from by omega); replace q26 := eq_true q26) | ((with_reducible refine gate_callee (f := 54) rfl ?_); refine goesL_ (some 36) rfl rfl Try.func54 (by kernel_rfl) rfl #[.slice A0 l0.length c0, .int .i64 a1, .slice A26 y143.length c26] rfl (by (try simp only [List.map_toArray, List.map_cons, List.map_nil]); first | done | rfl | (simp only [List.length_drop, List.length_take]; rfl)) ?_; (with_reducible refine (valiseref12_stands.calls kj3 _ _ l0 a1 _ _ y143 false _ ?side1 ?side2 ?side3 ?side4 A16.out).mono ?_); (case side1 => repeat (first | exact (Kd.C_below HR0.out (by repeat (first | (with_reducible first | exact HB.out | apply below_alloc | apply pw_below_drewN | apply below_drew1 | refine below_set ?_ GE137.out) | exact HB.out))) | (with_reducible refine Kd.C_alloc ?_ _) | (with_reducible refine Kd.C_drewN ?_ _) | (with_reducible refine Kd.C_drew ?_))); (case side2 => exact HC0.out); (case side3 => repeat (first | exact (by repeat (first | (with_reducible exact HR146.out) | (with_reducible refine Kd.C_alloc ?_ _) | (with_reducible refine Kd.C_drewN ?_ _) | (with_reducible refine Kd.C_drew ?_) | exact HR146.out)) | (with_reducible refine Kd.C_alloc ?_ _) | (with_reducible refine Kd.C_drewN ?_ _) | (with_reducible refine Kd.C_drew ?_))); (case side4 => exact HC146.out); rintro e w' ⟨rfl, ⟨nd, rfl⟩⟩; refine ⟨_, rfl, ?_⟩))
                  go_ret2
                  exact ⟨by first | rfl | (simp [errW_none, errW_some] <;> rfl) | (simp [*, errW_none, errW_some] <;> rfl), by repeat (first | (with_reducible first | exact HB.out | apply below_alloc | apply pw_below_drewN | apply below_drew1 | refine below_set ?_ GE137.out) | exact HB.out)⟩
                · rw [if_neg c22] at H
                  have c22b0 : decide ((wrap64 ((l0.length : Int) - a1)) < 12) = false := decide_eq_false c22
                  clear c22
                  simp only [Option.some.injEq, Prod.mk.injEq] at H
                  obtain ⟨rfl, rfl⟩ := H
                  have hcz27_0 : wc.cell? ⟨gb137, 0, none⟩ = some (.int .i64 a2_0) := (blk_cell BK137.out 0).trans rfl
                  have hcz27_1 : wc.cell? ⟨gb137, 1, none⟩ = some (.int .i64 a2_1) := (blk_cell BK137.out 1).trans rfl
                  have hcz27_2 : wc.cell? ⟨gb137, 2, none⟩ = some (.int .i64 a2_2) := (blk_cell BK137.out 2).trans rfl
                  have hcz27_3 : wc.cell? ⟨gb137, 3, none⟩ = some (.int .i64 a2_3) := (blk_cell BK137.out 3).trans rfl
                  have hcz27_4 : wc.cell? ⟨gb137, 4, none⟩ = some (.int .i64 a2_4) := (blk_cell BK137.out 4).trans rfl
                  have hcz27_5 : wc.cell? ⟨gb137, 5, none⟩ = some (.int .u32 a2_5) := (blk_cell BK137.out 5).trans rfl
                  have hcz27_6 : wc.cell? ⟨gb137, 6, none⟩ = some (.int .i64 a2_6) := (blk_cell BK137.out 6).trans rfl
                  have hcz27_7 : wc.cell? ⟨gb137, 7, none⟩ = some (.int .i64 a2_7) := (blk_cell BK137.out 7).trans rfl
                  have hcz27_8 : wc.cell? ⟨gb137, 8, none⟩ = some (.string a2_8) := (blk_cell BK137.out 8).trans rfl
                  have hcz27_9 : wc.cell? ⟨gb137, 9, none⟩ = some (.string a2_9) := (blk_cell BK137.out 9).trans rfl
                  have hfz27_0 := blk_frozen BK137.out 0
                  have hfz27_1 := blk_frozen BK137.out 1
                  have hfz27_2 := blk_frozen BK137.out 2
                  have hfz27_3 := blk_frozen BK137.out 3
                  have hfz27_4 := blk_frozen BK137.out 4
                  have hfz27_5 := blk_frozen BK137.out 5
                  have hfz27_6 := blk_frozen BK137.out 6
                  have hfz27_7 := blk_frozen BK137.out 7
                  have hfz27_8 := blk_frozen BK137.out 8
                  have hfz27_9 := blk_frozen BK137.out 9
                  go_wp2_with (first | ((with_reducible refine gate_callee (f := 14) rfl ?_); refine goesL_ (some 21) rfl rfl Try.func14 (by kernel_rfl) rfl #[.agg #[.int .i64 a2_0, .int .i64 a2_1, .int .i64 a2_2, .int .i64 a2_3, .int .i64 a2_4, .int .u32 a2_5, .int .i64 a2_6, .int .i64 a2_7, .string a2_8, .string a2_9], .bool true] rfl (by (try simp only [List.map_toArray, List.map_cons, List.map_nil]); first | done | rfl | (simp only [List.length_drop, List.length_take]; rfl)) ?_; (with_reducible refine (valiseref12_PutDescriptor.calls kj3 a2_0 a2_1 a2_2 a2_3 a2_4 a2_5 a2_6 a2_7 a2_8 a2_9 true t138 t141 _ A8.out).mono ?_); rintro e w28 ⟨v139, rfl, ho0, hb⟩; refine ⟨_, rfl, ?_⟩; have n0_ := Aside0.mk (Kd.R_lower ho0 (below_size (by repeat (first | (with_reducible first | exact HB.out | apply below_alloc | apply pw_below_drewN | apply below_drew1 | refine below_set ?_ GE137.out) | exact HB.out)))); have n1_ := Aside0.mk (blk_below (g := gb137) (o := .cells #[.int .i64 a2_0, .int .i64 a2_1, .int .i64 a2_2, .int .i64 a2_3, .int .i64 a2_4, .int .u32 a2_5, .int .i64 a2_6, .int .i64 a2_7, .string a2_8, .string a2_9] 24 (0, 0)) (by (with_reducible repeat (first | refine blk_drewN ?_ _ | refine blk_drew ?_ | refine blk_alloc ?_ _)); exact BK137.out) hb); have n2_ := Aside0.mk (below_step (by repeat (first | (with_reducible first | exact HB.out | apply below_alloc | apply pw_below_drewN | apply below_drew1 | refine below_set ?_ GE137.out) | exact HB.out)) hb); clear BK137; clear HB; have HO140 := n0_; have BK137 := n1_; have HB := n2_; clear n0_ n1_ n2_; (try clear hb); (try clear hb2); (try clear hk); (try clear hi); (try clear ho0); obtain ⟨Ao29, co29, eo29⟩ := Kd.R_slice HO140.out; subst eo29) | ((with_reducible refine gate_callee (f := 54) rfl ?_); refine goesL_ (some 30) rfl rfl Try.func54 (by kernel_rfl) rfl #[.slice A0 l0.length c0, .int .i64 a1, .slice Ao29 t138.length co29] rfl (by (try simp only [List.map_toArray, List.map_cons, List.map_nil]); first | done | rfl | (simp only [List.length_drop, List.length_take]; rfl)) ?_; (with_reducible refine (valiseref12_stands.calls kj3 _ _ l0 a1 _ _ t138 false _ ?side1 ?side2 ?side3 ?side4 A10.out).mono ?_); (case side1 => repeat (first | exact (Kd.C_below HR0.out HB.out) | (with_reducible refine Kd.C_alloc ?_ _) | (with_reducible refine Kd.C_drewN ?_ _) | (with_reducible refine Kd.C_drew ?_))); (case side2 => exact HC0.out); (case side3 => repeat (first | exact (Kd.R_reads' HO140.out).2.2 | (with_reducible refine Kd.C_alloc ?_ _) | (with_reducible refine Kd.C_drewN ?_ _) | (with_reducible refine Kd.C_drew ?_))); (case side4 => exact (Kd.R_reads' HO140.out).2.1); rintro e w' ⟨rfl, ⟨nd, rfl⟩⟩; refine ⟨_, rfl, ?_⟩; have q30 : (4 : Int) ≤ ((t138.length : Int) : Int) := of_decide_eq_true (by first | (with_reducible assumption) | assumption); obtain ⟨i030, hi030, _, hsz30, _⟩ := info_parts info5; have hroom30 : t138.length ≤ co29 := (Kd.R_reads' HO140.out).2.1; have hC30 : Kd.C (Kd.int .u8) _ Ao29 t138.length t138 := (Kd.R_reads' HO140.out).2.2; have hcut30 := cut_from (P := Try.prog) 25 5 .i64 Try.underlying25 hi030 1 hsz30 Ao29 t138.length co29 4 (by omega) q30; have hr30 := Kd.C_drop (m := (4 : Int).toNat) (c := co29) hC30 (by omega) hroom30; obtain ⟨A30, hA30⟩ : ∃ A1, A1 = (if co29 = (4 : Int).toNat then Ao29 else (Ao29 : Option Addr).map (·.add ((4 : Int).toNat * 1))) := ⟨_, rfl⟩; obtain ⟨c30, hc30⟩ : ∃ c1, c1 = co29 - (4 : Int).toNat := ⟨_, rfl⟩; have hy30 : y143.length = t138.length - (4 : Int).toNat := (by rw [Ny143.out, List.length_drop] <;> omega); rw [show (t138).drop (4 : Int).toNat = y143 from Ny143.out.symm] at hr30; replace hr30 : Kd.C (Kd.int .u8) _ A30 y143.length y143 := (by rw [hA30]; exact hr30); rw [← hy30, ← hA30, ← hc30] at hcut30; have HR146 := Aside0.mk hr30; have HC146 := Aside0.mk (show y143.length ≤ c30 from by rw [hy30, hc30]; exact Nat.sub_le_sub_right hroom30 _); clear hr30 hC30 hroom30 hi030 hsz30 hc30; have KY30 := Aside0.mk hy30; have KA30 := Aside0.mk hA30; clear hy30 hA30; have KL30 := Aside0.mk (show 4 ≤ t138.length from by omega); replace q30 := eq_true q30) | ((with_reducible refine gate_callee (f := 54) rfl ?_); refine goesL_ (some 36) rfl rfl Try.func54 (by kernel_rfl) rfl #[.slice A0 l0.length c0, .int .i64 a1, .slice A30 y143.length c30] rfl (by (try simp only [List.map_toArray, List.map_cons, List.map_nil]); first | done | rfl | (simp only [List.length_drop, List.length_take]; rfl)) ?_; (with_reducible refine (valiseref12_stands.calls kj3 _ _ l0 a1 _ _ y143 false _ ?side1 ?side2 ?side3 ?side4 A16.out).mono ?_); (case side1 => repeat (first | exact (Kd.C_below HR0.out (by repeat (first | (with_reducible first | exact HB.out | apply below_alloc | apply pw_below_drewN | apply below_drew1 | refine below_set ?_ GE137.out) | exact HB.out))) | (with_reducible refine Kd.C_alloc ?_ _) | (with_reducible refine Kd.C_drewN ?_ _) | (with_reducible refine Kd.C_drew ?_))); (case side2 => exact HC0.out); (case side3 => repeat (first | exact (by repeat (first | (with_reducible exact HR146.out) | (with_reducible refine Kd.C_alloc ?_ _) | (with_reducible refine Kd.C_drewN ?_ _) | (with_reducible refine Kd.C_drew ?_) | exact HR146.out)) | (with_reducible refine Kd.C_alloc ?_ _) | (with_reducible refine Kd.C_drewN ?_ _) | (with_reducible refine Kd.C_drew ?_))); (case side4 => exact HC146.out); rintro e w' ⟨rfl, ⟨nd, rfl⟩⟩; refine ⟨_, rfl, ?_⟩))
                  go_ret2
                  exact ⟨by first | rfl | (simp [errW_none, errW_some] <;> rfl) | (simp [*, errW_none, errW_some] <;> rfl), by repeat (first | (with_reducible first | exact HB.out | apply below_alloc | apply pw_below_drewN | apply below_drew1 | refine below_set ?_ GE137.out) | exact HB.out)⟩
            · rw [if_neg c15] at H
              exact absurd H (by simp)
        · rw [if_neg c9] at H
          have c9b0 : (t141 == 0) = false := beq_eq_false_iff_ne.mpr c9
          have c9b1 : (t141 != 0) = true := bne_iff_ne.mpr c9
          simp only [Option.some.injEq, Prod.mk.injEq] at H
          obtain ⟨rfl, rfl⟩ := H
          have hcz31_0 : wc.cell? ⟨gb137, 0, none⟩ = some (.int .i64 a2_0) := (blk_cell BK137.out 0).trans rfl
          have hcz31_1 : wc.cell? ⟨gb137, 1, none⟩ = some (.int .i64 a2_1) := (blk_cell BK137.out 1).trans rfl
          have hcz31_2 : wc.cell? ⟨gb137, 2, none⟩ = some (.int .i64 a2_2) := (blk_cell BK137.out 2).trans rfl
          have hcz31_3 : wc.cell? ⟨gb137, 3, none⟩ = some (.int .i64 a2_3) := (blk_cell BK137.out 3).trans rfl
          have hcz31_4 : wc.cell? ⟨gb137, 4, none⟩ = some (.int .i64 a2_4) := (blk_cell BK137.out 4).trans rfl
          have hcz31_5 : wc.cell? ⟨gb137, 5, none⟩ = some (.int .u32 a2_5) := (blk_cell BK137.out 5).trans rfl
          have hcz31_6 : wc.cell? ⟨gb137, 6, none⟩ = some (.int .i64 a2_6) := (blk_cell BK137.out 6).trans rfl
          have hcz31_7 : wc.cell? ⟨gb137, 7, none⟩ = some (.int .i64 a2_7) := (blk_cell BK137.out 7).trans rfl
          have hcz31_8 : wc.cell? ⟨gb137, 8, none⟩ = some (.string a2_8) := (blk_cell BK137.out 8).trans rfl
          have hcz31_9 : wc.cell? ⟨gb137, 9, none⟩ = some (.string a2_9) := (blk_cell BK137.out 9).trans rfl
          have hfz31_0 := blk_frozen BK137.out 0
          have hfz31_1 := blk_frozen BK137.out 1
          have hfz31_2 := blk_frozen BK137.out 2
          have hfz31_3 := blk_frozen BK137.out 3
          have hfz31_4 := blk_frozen BK137.out 4
          have hfz31_5 := blk_frozen BK137.out 5
          have hfz31_6 := blk_frozen BK137.out 6
          have hfz31_7 := blk_frozen BK137.out 7
          have hfz31_8 := blk_frozen BK137.out 8
          have hfz31_9 := blk_frozen BK137.out 9
          go_wp2_with (first | ((with_reducible refine gate_callee (f := 14) rfl ?_); refine goesL_ (some 21) rfl rfl Try.func14 (by kernel_rfl) rfl #[.agg #[.int .i64 a2_0, .int .i64 a2_1, .int .i64 a2_2, .int .i64 a2_3, .int .i64 a2_4, .int .u32 a2_5, .int .i64 a2_6, .int .i64 a2_7, .string a2_8, .string a2_9], .bool true] rfl (by (try simp only [List.map_toArray, List.map_cons, List.map_nil]); first | done | rfl | (simp only [List.length_drop, List.length_take]; rfl)) ?_; (with_reducible refine (valiseref12_PutDescriptor.calls kj3 a2_0 a2_1 a2_2 a2_3 a2_4 a2_5 a2_6 a2_7 a2_8 a2_9 true t138 t141 _ A8.out).mono ?_); rintro e w32 ⟨v139, rfl, ho0, hb⟩; refine ⟨_, rfl, ?_⟩; have n0_ := Aside0.mk (Kd.R_lower ho0 (below_size (by repeat (first | (with_reducible first | exact HB.out | apply below_alloc | apply pw_below_drewN | apply below_drew1 | refine below_set ?_ GE137.out) | exact HB.out)))); have n1_ := Aside0.mk (blk_below (g := gb137) (o := .cells #[.int .i64 a2_0, .int .i64 a2_1, .int .i64 a2_2, .int .i64 a2_3, .int .i64 a2_4, .int .u32 a2_5, .int .i64 a2_6, .int .i64 a2_7, .string a2_8, .string a2_9] 24 (0, 0)) (by (with_reducible repeat (first | refine blk_drewN ?_ _ | refine blk_drew ?_ | refine blk_alloc ?_ _)); exact BK137.out) hb); have n2_ := Aside0.mk (below_step (by repeat (first | (with_reducible first | exact HB.out | apply below_alloc | apply pw_below_drewN | apply below_drew1 | refine below_set ?_ GE137.out) | exact HB.out)) hb); clear BK137; clear HB; have HO140 := n0_; have BK137 := n1_; have HB := n2_; clear n0_ n1_ n2_; (try clear hb); (try clear hb2); (try clear hk); (try clear hi); (try clear ho0)))
          go_ret2
          exact ⟨by first | rfl | (simp [errW_none, errW_some] <;> rfl) | (simp [*, errW_none, errW_some] <;> rfl), by repeat (first | (with_reducible first | exact HB.out | apply below_alloc | apply pw_below_drewN | apply below_drew1 | refine below_set ?_ GE137.out) | exact HB.out)⟩

-- IMPORT Derived.Test.YtkmnhlhpmfkloaaLnt
/-! ### valiselaw12_still: function 20 -/
def valiselaw12_still.l0 : Nat → List Int → List Int → Int → Option (Bool)
  | 0, _, _, _ => none
  | k + 1, x1, x5, x6 => if x6 < (x5.length : Int) then (if x6 < (x1.length : Int) then (if 0 ≤ x6 then (if (rd x5 x6) = (rd x1 x6) then (if x6 ≥ (x1.length : Int) then (if (rd x5 x6) = 165 then (valiselaw12_still.l0 k x1 x5 (wrap64 (x6 + 1))) else (some false)) else (valiselaw12_still.l0 k x1 x5 (wrap64 (x6 + 1)))) else (some false)) else (none)) else (if x6 ≥ (x1.length : Int) then (if 0 ≤ x6 then (if (rd x5 x6) = 165 then (valiselaw12_still.l0 k x1 x5 (wrap64 (x6 + 1))) else (some false)) else (none)) else (valiselaw12_still.l0 k x1 x5 (wrap64 (x6 + 1))))) else (some true)
def valiselaw12_still.f (k : Nat) (l0 : List Int) (l1 : List Int) : Option (Bool) := if l0.length = l1.length ∧ l1.length ≤ 140737488355320 then valiselaw12_still.l0 k l1 (l0 ++ Go.Proofs.Ytkmnhlhpmfkloaa.Fld.pad) 0 else none
theorem valiselaw12_still.mono_l : ∀ k, (∀ y0 y1 y2, LeO (valiselaw12_still.l0 k y0 y1 y2) (valiselaw12_still.l0 (k + 1) y0 y1 y2))
  | 0 => fun _ _ _ r h => by simp [valiselaw12_still.l0] at h
  | k + 1 => by
    have ih0 := valiselaw12_still.mono_l k
    · intro y0 y1 y2
      unfold valiselaw12_still.l0
      repeat' first
      | (with_reducible exact ih0 _ _ _)
      | (with_reducible exact LeO.refl _)
      | (with_reducible exact LeO.none _)
      | (with_reducible refine LeO.ite ?_ ?_)
      | (with_reducible refine LeO.bind ?_ (fun _ => ?_))
      | exact ih0 _ _ _
      | exact LeO.none _
      | refine LeO.ite ?_ ?_
      | refine LeO.bind ?_ (fun _ => ?_)
theorem valiselaw12_still.mono : ∀ a0 a1 k, LeO (valiselaw12_still.f k a0 a1) (valiselaw12_still.f (k + 1) a0 a1) := by
  intro a0 a1 k
  have ih0 := valiselaw12_still.mono_l k
  unfold valiselaw12_still.f
  repeat' first
      | (with_reducible exact ih0 _ _ _)
      | (with_reducible exact LeO.refl _)
      | (with_reducible exact LeO.none _)
      | (with_reducible refine LeO.ite ?_ ?_)
      | (with_reducible refine LeO.bind ?_ (fun _ => ?_))
      | exact ih0 _ _ _
      | exact LeO.none _
      | refine LeO.ite ?_ ?_
      | refine LeO.bind ?_ (fun _ => ?_)
set_option maxHeartbeats 8000000 in
set_option maxRecDepth 100000 in
theorem valiselaw12_still.calls (k : Nat) (A0 : Option Addr) (c0 : Nat) (l0 : List Int) (A1 : Option Addr) (c1 : Nat) (l1 : List Int) (r : Bool) (w : World) (hr0 : Kd.C (Kd.int .u8) w A0 l0.length l0) (hc0 : l0.length ≤ c0) (hr1 : Kd.C (Kd.int .u8) w A1 l1.length l1) (hc1 : l1.length ≤ c1) (hL : Go.Proofs.Ytkmnhlhpmfkloaa.Fld.LentV w (.slice A0 l0.length c0) l0) (h : valiselaw12_still.f k l0 l1 = some r) :
    Calls Try.prog 20 #[.slice A0 l0.length c0, .slice A1 l1.length c1] w fun e w' => e = .returned (.bool r) ∧ Drawn0 w w' := by
  unfold valiselaw12_still.f at h
  by_cases cc : l0.length = l1.length ∧ l1.length ≤ 140737488355320
  · rw [if_pos cc] at h
    obtain ⟨hLC, hLc⟩ := hL.open
    clear hL
    obtain ⟨lf, hlf⟩ : ∃ lf, l0 ++ Go.Proofs.Ytkmnhlhpmfkloaa.Fld.pad = lf := ⟨_, rfl⟩
    have hlfl : lf.length = l1.length + 8 := by rw [← hlf, List.length_append, cc.1]; rfl
    rw [hlf] at h hLC
    have HR0 := Aside0.mk hr0
    have HC0 := Aside0.mk hc0
    clear hr0 hc0
    have HR1 := Aside0.mk hr1
    have HC1 := Aside0.mk hc1
    clear hr1 hc1
    have c3b0 : ((l0.length : Int) == (l1.length : Int)) = true := by rw [cc.1]; exact beq_self_eq_true _
    have c3b1 : ((l0.length : Int) != (l1.length : Int)) = false := by rw [cc.1]; exact bne_self_eq_false _
    have c3b2 : (l0.length == l1.length) = true := by rw [cc.1]; exact beq_self_eq_true _
    obtain ⟨ji4, hji4⟩ : ∃ j_ : Int, (wrap64 ((l1.length : Int) + 8)) = j_ := ⟨_, rfl⟩
    have hji4w : (IntKind.i64.wrap ((l1.length : Int) + 8)) = ji4 := (i64_w _).trans hji4
    have hjn : ji4.toNat = lf.length := by rw [← hji4, hlfl]; unfold wrap64; have := cc.2; omega
    have hj0 : 0 ≤ ji4 := by rw [← hji4]; unfold wrap64; have := cc.2; omega
    have c5b0 := eq_true hj0
    have c5b1 : decide (0 ≤ ji4) = true := decide_eq_true hj0
    obtain ⟨i07, hi07, _, hsz7, _⟩ := info_parts info5
    have hcut7 := Go.Proofs.Ytkmnhlhpmfkloaa.Fld.cut_cap (P := Try.prog) 25 5 .i64 Try.underlying25 hi07 A0 l0.length c0 ji4 hj0 (by omega)
    rw [hjn] at hcut7
    have HR148 := Aside0.mk hLC
    have HC116 := Aside0.mk (show lf.length ≤ c0 by omega)
    have H' := Aside0.mk h
    have HLF := Aside0.mk hlf
    have HJN := Aside0.mk hjn
    have HCC := Aside0.mk cc
    clear hLC hLc h hlf hjn hlfl cc hj0 hi07 hsz7
    go_enter Try.func20, Try.ntmps20
    go_wp2
    repeat (go_quiet (fail); try go_wp2)
    go_loopg [6] k (fun kq v6 w' => ∃ (x6_1 : Int), v6 = .int .i64 x6_1 ∧ Aside0 (valiselaw12_still.l0 kq l1 lf x6_1 = some r) ∧ Aside0 (kq ≤ k) ∧ Drawn0 w w')
    case atStart => exact ⟨(0), (by first | rfl | (simp; done) | (simp [*]; done)), H', ⟨Nat.le_refl _⟩, by repeat (first | exact Drawn0.refl _ | apply Drawn0.step)⟩
    case round =>
      clear H'
      try clear c1
      try clear c2
      try clear p2
      try clear c3
      try clear c3b0
      try clear c3b1
      try clear c3b2
      try clear c5
      try clear c5b0
      try clear c5b1
      try clear c6
      try clear c6b0
      try clear c6b1
      try clear p6
      obtain ⟨x6_1, rfl, HA, HK1, ⟨m1, rfl⟩⟩ := hrel
      cases gk with
      | zero => exact absurd HA.out (by simp [valiselaw12_still.l0])
      | succ k1 =>
        have H := HA.out
        clear HA
        simp only [valiselaw12_still.l0] at H
        by_cases c8 : x6_1 < (lf.length : Int)
        · rw [if_pos c8] at H
          have c8b0 : decide (x6_1 < (lf.length : Int)) = true := decide_eq_true c8
          clear c8
          by_cases c9 : x6_1 < (l1.length : Int)
          · rw [if_pos c9] at H
            have c9b0 : decide (x6_1 < (l1.length : Int)) = true := decide_eq_true c9
            clear c9
            by_cases c10 : 0 ≤ x6_1
            · rw [if_pos c10] at H
              have c10b0 : decide (0 ≤ x6_1) = true := decide_eq_true c10
              clear c10
              by_cases c11 : (rd lf x6_1) = (rd l1 x6_1)
              · rw [if_pos c11] at H
                have c11b0 : ((rd lf x6_1) == (rd l1 x6_1)) = true := beq_iff_eq.mpr c11
                have c11b1 : ((rd lf x6_1) != (rd l1 x6_1)) = false := bne_eq_false_iff_eq.mpr c11
                clear c11
                by_cases c12 : x6_1 ≥ (l1.length : Int)
                · rw [if_pos c12] at H
                  have c12b0 : decide ((l1.length : Int) ≤ x6_1) = true := decide_eq_true c12
                  clear c12
                  by_cases c13 : (rd lf x6_1) = 165
                  · rw [if_pos c13] at H
                    have c13b0 : ((rd lf x6_1) == 165) = true := beq_iff_eq.mpr c13
                    have c13b1 : ((rd lf x6_1) != 165) = false := bne_eq_false_iff_eq.mpr c13
                    clear c13
                    have H' := Aside0.mk H
                    clear H
                    have p149 : 0 ≤ (x6_1 : Int) := of_decide_eq_true (by first | (with_reducible assumption) | assumption)
                    have q149 : x6_1 < (lf.length : Int) := of_decide_eq_true (by first | (with_reducible assumption) | assumption)
                    obtain ⟨ad149, e149, hx149_0⟩ := Kd.at_int HR148.out x6_1 p149 q149
                    cases e149
                    replace p149 := eq_true p149
                    replace q149 := eq_true q149
                    have p150 : 0 ≤ (x6_1 : Int) := of_decide_eq_true (by first | (with_reducible assumption) | assumption)
                    have q150 : x6_1 < (l1.length : Int) := of_decide_eq_true (by first | (with_reducible assumption) | assumption)
                    obtain ⟨ad150, e150, hx150_0⟩ := Kd.at_int HR1.out x6_1 p150 q150
                    cases e150
                    replace p150 := eq_true p150
                    replace q150 := eq_true q150
                    have p151 : 0 ≤ (x6_1 : Int) := of_decide_eq_true (by first | (with_reducible assumption) | assumption)
                    have q151 : x6_1 < (lf.length : Int) := of_decide_eq_true (by first | (with_reducible assumption) | assumption)
                    obtain ⟨ad151, e151, hx151_0⟩ := Kd.at_int HR148.out x6_1 p151 q151
                    obtain rfl : ad149 = ad151 := (by injection e151)
                    replace p151 := eq_true p151
                    replace q151 := eq_true q151
                    go_wp2
                    repeat (go_quiet (fail); try go_wp2)
                    go_roundg k1
                    case measure => have := HK1.out; omega
                    case rel => exact ⟨(wrap64 (x6_1 + 1)), (by first | rfl | (simp; done) | (simp [*]; done)), H', ⟨by have := HK1.out; omega⟩, by repeat (first | exact Drawn0.refl _ | apply Drawn0.step)⟩
                  · rw [if_neg c13] at H
                    have c13b0 : ((rd lf x6_1) == 165) = false := beq_eq_false_iff_ne.mpr c13
                    have c13b1 : ((rd lf x6_1) != 165) = true := bne_iff_ne.mpr c13
                    obtain rfl := Option.some.inj H
                    have p149 : 0 ≤ (x6_1 : Int) := of_decide_eq_true (by first | (with_reducible assumption) | assumption)
                    have q149 : x6_1 < (lf.length : Int) := of_decide_eq_true (by first | (with_reducible assumption) | assumption)
                    obtain ⟨ad149, e149, hx149_0⟩ := Kd.at_int HR148.out x6_1 p149 q149
                    cases e149
                    replace p149 := eq_true p149
                    replace q149 := eq_true q149
                    have p150 : 0 ≤ (x6_1 : Int) := of_decide_eq_true (by first | (with_reducible assumption) | assumption)
                    have q150 : x6_1 < (l1.length : Int) := of_decide_eq_true (by first | (with_reducible assumption) | assumption)
                    obtain ⟨ad150, e150, hx150_0⟩ := Kd.at_int HR1.out x6_1 p150 q150
                    cases e150
                    replace p150 := eq_true p150
                    replace q150 := eq_true q150
                    have p151 : 0 ≤ (x6_1 : Int) := of_decide_eq_true (by first | (with_reducible assumption) | assumption)
                    have q151 : x6_1 < (lf.length : Int) := of_decide_eq_true (by first | (with_reducible assumption) | assumption)
                    obtain ⟨ad151, e151, hx151_0⟩ := Kd.at_int HR148.out x6_1 p151 q151
                    obtain rfl : ad149 = ad151 := (by injection e151)
                    replace p151 := eq_true p151
                    replace q151 := eq_true q151
                    go_wp2
                    repeat (go_quiet (fail); try go_wp2)
                    go_ret
                    exact ⟨by first | rfl | (simp; done) | (simp only [← hji4] <;> (first | rfl | simp)) | (simp [*]; done), by repeat (first | exact Drawn0.refl _ | apply Drawn0.step)⟩
                · rw [if_neg c12] at H
                  have c12b0 : decide ((l1.length : Int) ≤ x6_1) = false := decide_eq_false c12
                  clear c12
                  have H' := Aside0.mk H
                  clear H
                  have p149 : 0 ≤ (x6_1 : Int) := of_decide_eq_true (by first | (with_reducible assumption) | assumption)
                  have q149 : x6_1 < (lf.length : Int) := of_decide_eq_true (by first | (with_reducible assumption) | assumption)
                  obtain ⟨ad149, e149, hx149_0⟩ := Kd.at_int HR148.out x6_1 p149 q149
                  cases e149
                  replace p149 := eq_true p149
                  replace q149 := eq_true q149
                  have p150 : 0 ≤ (x6_1 : Int) := of_decide_eq_true (by first | (with_reducible assumption) | assumption)
                  have q150 : x6_1 < (l1.length : Int) := of_decide_eq_true (by first | (with_reducible assumption) | assumption)
                  obtain ⟨ad150, e150, hx150_0⟩ := Kd.at_int HR1.out x6_1 p150 q150
                  cases e150
                  replace p150 := eq_true p150
                  replace q150 := eq_true q150
                  go_wp2
                  repeat (go_quiet (fail); try go_wp2)
                  go_roundg k1
                  case measure => have := HK1.out; omega
                  case rel => exact ⟨(wrap64 (x6_1 + 1)), (by first | rfl | (simp; done) | (simp [*]; done)), H', ⟨by have := HK1.out; omega⟩, by repeat (first | exact Drawn0.refl _ | apply Drawn0.step)⟩
              · rw [if_neg c11] at H
                have c11b0 : ((rd lf x6_1) == (rd l1 x6_1)) = false := beq_eq_false_iff_ne.mpr c11
                have c11b1 : ((rd lf x6_1) != (rd l1 x6_1)) = true := bne_iff_ne.mpr c11
                obtain rfl := Option.some.inj H
                have p149 : 0 ≤ (x6_1 : Int) := of_decide_eq_true (by first | (with_reducible assumption) | assumption)
                have q149 : x6_1 < (lf.length : Int) := of_decide_eq_true (by first | (with_reducible assumption) | assumption)
                obtain ⟨ad149, e149, hx149_0⟩ := Kd.at_int HR148.out x6_1 p149 q149
                cases e149
                replace p149 := eq_true p149
                replace q149 := eq_true q149
                have p150 : 0 ≤ (x6_1 : Int) := of_decide_eq_true (by first | (with_reducible assumption) | assumption)
                have q150 : x6_1 < (l1.length : Int) := of_decide_eq_true (by first | (with_reducible assumption) | assumption)
                obtain ⟨ad150, e150, hx150_0⟩ := Kd.at_int HR1.out x6_1 p150 q150
                cases e150
                replace p150 := eq_true p150
                replace q150 := eq_true q150
                go_wp2
                repeat (go_quiet (fail); try go_wp2)
                go_ret
                exact ⟨by first | rfl | (simp; done) | (simp only [← hji4] <;> (first | rfl | simp)) | (simp [*]; done), by repeat (first | exact Drawn0.refl _ | apply Drawn0.step)⟩
            · rw [if_neg c10] at H
              exact absurd H (by simp)
          · rw [if_neg c9] at H
            have c9b0 : decide (x6_1 < (l1.length : Int)) = false := decide_eq_false c9
            clear c9
            by_cases c14 : x6_1 ≥ (l1.length : Int)
            · rw [if_pos c14] at H
              have c14b0 : decide ((l1.length : Int) ≤ x6_1) = true := decide_eq_true c14
              clear c14
              by_cases c15 : 0 ≤ x6_1
              · rw [if_pos c15] at H
                have c15b0 : decide (0 ≤ x6_1) = true := decide_eq_true c15
                clear c15
                by_cases c16 : (rd lf x6_1) = 165
                · rw [if_pos c16] at H
                  have c16b0 : ((rd lf x6_1) == 165) = true := beq_iff_eq.mpr c16
                  have c16b1 : ((rd lf x6_1) != 165) = false := bne_eq_false_iff_eq.mpr c16
                  clear c16
                  have H' := Aside0.mk H
                  clear H
                  have p152 : 0 ≤ (x6_1 : Int) := of_decide_eq_true (by first | (with_reducible assumption) | assumption)
                  have q152 : x6_1 < (lf.length : Int) := of_decide_eq_true (by first | (with_reducible assumption) | assumption)
                  obtain ⟨ad152, e152, hx152_0⟩ := Kd.at_int HR148.out x6_1 p152 q152
                  cases e152
                  replace p152 := eq_true p152
                  replace q152 := eq_true q152
                  go_wp2
                  repeat (go_quiet (fail); try go_wp2)
                  go_roundg k1
                  case measure => have := HK1.out; omega
                  case rel => exact ⟨(wrap64 (x6_1 + 1)), (by first | rfl | (simp; done) | (simp [*]; done)), H', ⟨by have := HK1.out; omega⟩, by repeat (first | exact Drawn0.refl _ | apply Drawn0.step)⟩
                · rw [if_neg c16] at H
                  have c16b0 : ((rd lf x6_1) == 165) = false := beq_eq_false_iff_ne.mpr c16
                  have c16b1 : ((rd lf x6_1) != 165) = true := bne_iff_ne.mpr c16
                  obtain rfl := Option.some.inj H
                  have p152 : 0 ≤ (x6_1 : Int) := of_decide_eq_true (by first | (with_reducible assumption) | assumption)
                  have q152 : x6_1 < (lf.length : Int) := of_decide_eq_true (by first | (with_reducible assumption) | assumption)
                  obtain ⟨ad152, e152, hx152_0⟩ := Kd.at_int HR148.out x6_1 p152 q152
                  cases e152
                  replace p152 := eq_true p152
                  replace q152 := eq_true q152
                  go_wp2
                  repeat (go_quiet (fail); try go_wp2)
                  go_ret
                  exact ⟨by first | rfl | (simp; done) | (simp only [← hji4] <;> (first | rfl | simp)) | (simp [*]; done), by repeat (first | exact Drawn0.refl _ | apply Drawn0.step)⟩
              · rw [if_neg c15] at H
                exact absurd H (by simp)
            · rw [if_neg c14] at H
              have c14b0 : decide ((l1.length : Int) ≤ x6_1) = false := decide_eq_false c14
              clear c14
              have H' := Aside0.mk H
              clear H
              go_wp2
              repeat (go_quiet (fail); try go_wp2)
              go_roundg k1
              case measure => have := HK1.out; omega
              case rel => exact ⟨(wrap64 (x6_1 + 1)), (by first | rfl | (simp; done) | (simp [*]; done)), H', ⟨by have := HK1.out; omega⟩, by repeat (first | exact Drawn0.refl _ | apply Drawn0.step)⟩
        · rw [if_neg c8] at H
          have c8b0 : decide (x6_1 < (lf.length : Int)) = false := decide_eq_false c8
          clear c8
          obtain rfl := Option.some.inj H
          go_wp2
          repeat (go_quiet (fail); try go_wp2)
          go_ret
          exact ⟨by first | rfl | (simp; done) | (simp only [← hji4] <;> (first | rfl | simp)) | (simp [*]; done), by repeat (first | exact Drawn0.refl _ | apply Drawn0.step)⟩
  · rw [if_neg cc] at h; cases h

end Go.Proofs.Ytkmnhlhpmfkloaa.PD
