-- written by this session's own program ext.py over the print
import Derived.Test.YtehpkbkffaolaaaPLx0
namespace Go.Proofs.Ytehpkbkffaolaaa.PL
open Go.RowKit Go.Proofs.YtehpkbkffaolaaaW.PrintWords Go.Proofs.YtehpkbkffaolaaaW.PrintLast Go.Proofs.YtehpkbkffaolaaaW.PrintMore
attribute [local go_sem] max2_int min2_int max_two min_two max_three min_three max_four min_four   -- for this text's walks alone
set_option linter.unusedVariables false
set_option linter.unusedSimpArgs false

/-! ### layout_Tight: function 16 -/
def layout_Tight.l0 : Nat → Int → List (S30) → Int → Int → Option (Int)
  | 0, _, _, _, _ => none
  | k + 1, x5, x11, x12, x13 => if x13 < x12 then (if 0 ≤ x13 then (if x13 < (x11.length : Int) then (if ((rd_T30 x11 x13).f4) > ((rd_T30 x11 x13).f2) then (if (IntKind.u64.wrap ((IntKind.u64.wrap ((rd_T30 x11 x13).f4)) - (IntKind.u64.wrap ((rd_T30 x11 x13).f2)))) ≤ 16777216 then (layout_Tight.l0 k (wrap64 ((wrap64 (x5 + (wrap64 ((wrap64 ((wrap64 (46 + (((rd_T30 x11 x13).f0.f0.f8).size : Int))) + (((rd_T30 x11 x13).f0.f0.f9).size : Int))) + (((rd_T30 x11 x13).f0.f6).size : Int))))) + (wrap64 (((rd_T30 x11 x13).f4) - ((rd_T30 x11 x13).f2))))) x11 x12 (wrap64 (x13 + 1))) else (layout_Tight.l0 k (wrap64 (x5 + (wrap64 ((wrap64 ((wrap64 (46 + (((rd_T30 x11 x13).f0.f0.f8).size : Int))) + (((rd_T30 x11 x13).f0.f0.f9).size : Int))) + (((rd_T30 x11 x13).f0.f6).size : Int))))) x11 x12 (wrap64 (x13 + 1)))) else (layout_Tight.l0 k (wrap64 (x5 + (wrap64 ((wrap64 ((wrap64 (46 + (((rd_T30 x11 x13).f0.f0.f8).size : Int))) + (((rd_T30 x11 x13).f0.f0.f9).size : Int))) + (((rd_T30 x11 x13).f0.f6).size : Int))))) x11 x12 (wrap64 (x13 + 1)))) else (none)) else (none)) else (some x5)
def layout_Tight.f (k : Nat) (l0 : List (S30)) (a1 : ByteArray) : Option (Int) := layout_Tight.l0 k (wrap64 (22 + (a1.size : Int))) l0 (l0.length : Int) 0
theorem layout_Tight.mono_l : ∀ k, (∀ y0 y1 y2 y3, LeO (layout_Tight.l0 k y0 y1 y2 y3) (layout_Tight.l0 (k + 1) y0 y1 y2 y3))
  | 0 => fun _ _ _ _ r h => by simp [layout_Tight.l0] at h
  | k + 1 => by
    have ih0 := layout_Tight.mono_l k
    · intro y0 y1 y2 y3
      unfold layout_Tight.l0
      repeat' first
      | (with_reducible exact ih0 _ _ _ _)
      | (with_reducible exact LeO.refl _)
      | (with_reducible exact LeO.none _)
      | (with_reducible refine LeO.ite ?_ ?_)
      | (with_reducible refine LeO.bind ?_ (fun _ => ?_))
      | exact ih0 _ _ _ _
      | exact LeO.none _
      | refine LeO.ite ?_ ?_
      | refine LeO.bind ?_ (fun _ => ?_)
theorem layout_Tight.mono : ∀ a0 a1 k, LeO (layout_Tight.f k a0 a1) (layout_Tight.f (k + 1) a0 a1) := by
  intro a0 a1 k
  have ih0 := layout_Tight.mono_l k
  unfold layout_Tight.f
  repeat' first
      | (with_reducible exact ih0 _ _ _ _)
      | (with_reducible exact LeO.refl _)
      | (with_reducible exact LeO.none _)
      | (with_reducible refine LeO.ite ?_ ?_)
      | (with_reducible refine LeO.bind ?_ (fun _ => ?_))
      | exact ih0 _ _ _ _
      | exact LeO.none _
      | refine LeO.ite ?_ ?_
      | refine LeO.bind ?_ (fun _ => ?_)
set_option maxHeartbeats 8000000 in
set_option maxRecDepth 100000 in
theorem layout_Tight.calls (k : Nat) (A0 : Option Addr) (c0 : Nat) (l0 : List (S30)) (a1 : ByteArray) (r : Int) (w : World) (hr0 : Kd.C k30 w A0 l0.length l0) (hc0 : l0.length ≤ c0) (h : layout_Tight.f k l0 a1 = some r) :
    Calls Try.prog 16 #[.slice A0 l0.length c0, .string a1] w fun e w' => e = .returned (.int .i64 r) ∧ Below w.heap.size w w' := by
  have hu30 := Try.underlying30
  have HR0 := Aside0.mk hr0
  have HC0 := Aside0.mk hc0
  clear hr0 hc0
  have HB := Aside0.mk (Below.refl w.heap.size w)
  have H : (layout_Tight.l0 k (wrap64 (22 + (a1.size : Int))) l0 (l0.length : Int) 0) = some r := h
  clear h
  have H' := Aside0.mk H
  clear H
  go_enter Try.func16, Try.ntmps16
  go_wp2
  go_loopg [5, 13] k (fun kq v5 v13 w' => ∃ (x5_1 : Int) (x13_1 : Int), v5 = .int .i64 x5_1 ∧ v13 = .int .i64 x13_1 ∧ Aside0 (layout_Tight.l0 kq x5_1 l0 (l0.length : Int) x13_1 = some r) ∧ Aside0 (kq ≤ k) ∧ Aside0 (Below w.heap.size w w'))
  case atStart => exact ⟨(wrap64 (22 + (a1.size : Int))), (0), (by first | rfl | (simp; done) | (simp [*]; done)), (by first | rfl | (simp; done) | (simp [*]; done)), H', ⟨Nat.le_refl _⟩, ⟨by repeat (first | (with_reducible first | exact HB.out | apply below_alloc | apply pw_below_drewN | apply below_drew1) | exact HB.out)⟩⟩
  case round =>
    clear H'
    try clear c1
    try clear p2
    obtain ⟨x5_1, x13_1, rfl, rfl, HA, HK1, HB⟩ := hrel
    cases gk with
    | zero => exact absurd HA.out (by simp [layout_Tight.l0])
    | succ k1 =>
      have H := HA.out
      clear HA
      simp only [layout_Tight.l0] at H
      by_cases c3 : x13_1 < (l0.length : Int)
      · rw [if_pos c3] at H
        have c3b0 : decide (x13_1 < (l0.length : Int)) = true := decide_eq_true c3
        clear c3
        by_cases c4 : 0 ≤ x13_1
        · rw [if_pos c4] at H
          have c4b0 : decide (0 ≤ x13_1) = true := decide_eq_true c4
          clear c4
          by_cases c5 : x13_1 < (l0.length : Int)
          · rw [if_pos c5] at H
            have c5b0 : decide (x13_1 < (l0.length : Int)) = true := decide_eq_true c5
            clear c5
            by_cases c6 : ((rd_T30 l0 x13_1).f4) > ((rd_T30 l0 x13_1).f2)
            · rw [if_pos c6] at H
              have c6b0 : decide (((rd_T30 l0 x13_1).f2) < ((rd_T30 l0 x13_1).f4)) = true := decide_eq_true c6
              clear c6
              by_cases c7 : (IntKind.u64.wrap ((IntKind.u64.wrap ((rd_T30 l0 x13_1).f4)) - (IntKind.u64.wrap ((rd_T30 l0 x13_1).f2)))) ≤ 16777216
              · rw [if_pos c7] at H
                have c7b0 : decide ((IntKind.u64.wrap ((IntKind.u64.wrap ((rd_T30 l0 x13_1).f4)) - (IntKind.u64.wrap ((rd_T30 l0 x13_1).f2)))) ≤ 16777216) = true := decide_eq_true c7
                clear c7
                have H' := Aside0.mk H
                clear H
                have p107 : 0 ≤ (x13_1 : Int) := of_decide_eq_true (by first | (with_reducible assumption) | assumption)
                have q107 : x13_1 < (l0.length : Int) := of_decide_eq_true (by first | (with_reducible assumption) | assumption)
                obtain ⟨ad107, cc107, e107, hlc107, hKc107, hcc107⟩ := Kd.C_get HR0.out z30 x13_1 p107 q107
                obtain rfl := k30_open hKc107
                clear hlc107 hKc107
                cases e107
                replace hcc107 := fun j_ u_ hu_ => (HB.out.cell (World.block_lt_of_cell? w _ (hcc107 j_ u_ hu_))).trans (hcc107 j_ u_ hu_)
                have HLD107 := Aside0.mk hcc107
                clear hcc107
                replace p107 := eq_true p107
                replace q107 := eq_true q107
                go_wp2_with (first | ((with_reducible refine gate_load (ty := 30) rfl ?_); refine agg_load 30 _ rfl rfl _ rfl [.int .i64 ((rd_T30 l0 x13_1).f0.f0.f0), .int .i64 ((rd_T30 l0 x13_1).f0.f0.f1), .int .i64 ((rd_T30 l0 x13_1).f0.f0.f2), .int .i64 ((rd_T30 l0 x13_1).f0.f0.f3), .int .i64 ((rd_T30 l0 x13_1).f0.f0.f4), .int .u32 ((rd_T30 l0 x13_1).f0.f0.f5), .int .i64 ((rd_T30 l0 x13_1).f0.f0.f6), .int .i64 ((rd_T30 l0 x13_1).f0.f0.f7), .string ((rd_T30 l0 x13_1).f0.f0.f8), .string ((rd_T30 l0 x13_1).f0.f0.f9), .int .i64 ((rd_T30 l0 x13_1).f0.f1), .int .i64 ((rd_T30 l0 x13_1).f0.f2), .int .i64 ((rd_T30 l0 x13_1).f0.f3), .int .i64 ((rd_T30 l0 x13_1).f0.f4), .int .i64 ((rd_T30 l0 x13_1).f0.f5), .string ((rd_T30 l0 x13_1).f0.f6), .string ((rd_T30 l0 x13_1).f1), .int .i64 ((rd_T30 l0 x13_1).f2), .int .i64 ((rd_T30 l0 x13_1).f3), .int .i64 ((rd_T30 l0 x13_1).f4)] Try.underlying30 rfl info30 (agg_at HLD107.out) ?_) | ((with_reducible refine gate_dst (N := 7) rfl ?_); refine box2_event ?hg (N := 7) ?hd ?hg2 (zs := #[.int .i64 0, .int .i64 0, .int .i64 0, .int .i64 0, .int .i64 0, .int .u32 0, .int .i64 0, .int .i64 0, .string (⟨#[]⟩ : ByteArray), .string (⟨#[]⟩ : ByteArray), .int .i64 0, .int .i64 0, .int .i64 0, .int .i64 0, .int .i64 0, .string (⟨#[]⟩ : ByteArray), .string (⟨#[]⟩ : ByteArray), .int .i64 0, .int .i64 0, .int .i64 0]) (cs := [.int .i64 ((rd_T30 l0 x13_1).f0.f0.f0), .int .i64 ((rd_T30 l0 x13_1).f0.f0.f1), .int .i64 ((rd_T30 l0 x13_1).f0.f0.f2), .int .i64 ((rd_T30 l0 x13_1).f0.f0.f3), .int .i64 ((rd_T30 l0 x13_1).f0.f0.f4), .int .u32 ((rd_T30 l0 x13_1).f0.f0.f5), .int .i64 ((rd_T30 l0 x13_1).f0.f0.f6), .int .i64 ((rd_T30 l0 x13_1).f0.f0.f7), .string ((rd_T30 l0 x13_1).f0.f0.f8), .string ((rd_T30 l0 x13_1).f0.f0.f9), .int .i64 ((rd_T30 l0 x13_1).f0.f1), .int .i64 ((rd_T30 l0 x13_1).f0.f2), .int .i64 ((rd_T30 l0 x13_1).f0.f3), .int .i64 ((rd_T30 l0 x13_1).f0.f4), .int .i64 ((rd_T30 l0 x13_1).f0.f5), .string ((rd_T30 l0 x13_1).f0.f6), .string ((rd_T30 l0 x13_1).f1), .int .i64 ((rd_T30 l0 x13_1).f2), .int .i64 ((rd_T30 l0 x13_1).f3), .int .i64 ((rd_T30 l0 x13_1).f4)]) (t := 30) (.tmp 16) ?ho2 ?hr ?hx ?hy info30 ?hn ?hold ?h1 ?_; (case hd => rfl); (case hg => rfl); (case hg2 => rfl); (case ho2 => rfl); (case hr => first | (go_simp; done) | (go_simp; rfl)); (case hx => rfl); (case hy => first | rfl | (go_simp; done) | (go_simp; rfl)); (case hn => rfl); (case hold => rfl); (case h1 => rfl); intro gb108 hg w8 hbox hb; have n0_ := Aside0.mk (below_step (by repeat (first | (with_reducible first | exact HB.out | apply below_alloc | apply pw_below_drewN | apply below_drew1) | exact HB.out)) hb); have n1_ := Aside0.mk (hbox); have n2_ := Aside0.mk ((by rw [hg]; exact (below_size (by repeat (first | (with_reducible first | exact HB.out | apply below_alloc | apply pw_below_drewN | apply below_drew1) | exact HB.out))) : w.heap.size ≤ gb108)); have n3_ := Aside0.mk ((by rw [hg]; exact (below_size (by repeat (first | (with_reducible first | exact HB.out | apply below_alloc | apply pw_below_drewN | apply below_drew1) | exact HB.out))) : w.heap.size ≤ gb108)); clear HB; have HB := n0_; have BK108 := n1_; have GW108 := n2_; have GE108 := n3_; clear n0_ n1_ n2_ n3_; clear hb hbox hg; have hcz9_0 : w8.cell? ⟨gb108, 0, none⟩ = some (.int .i64 ((rd_T30 l0 x13_1).f0.f0.f0)) := (blk_cell BK108.out 0).trans rfl; have hcz9_1 : w8.cell? ⟨gb108, 1, none⟩ = some (.int .i64 ((rd_T30 l0 x13_1).f0.f0.f1)) := (blk_cell BK108.out 1).trans rfl; have hcz9_2 : w8.cell? ⟨gb108, 2, none⟩ = some (.int .i64 ((rd_T30 l0 x13_1).f0.f0.f2)) := (blk_cell BK108.out 2).trans rfl; have hcz9_3 : w8.cell? ⟨gb108, 3, none⟩ = some (.int .i64 ((rd_T30 l0 x13_1).f0.f0.f3)) := (blk_cell BK108.out 3).trans rfl; have hcz9_4 : w8.cell? ⟨gb108, 4, none⟩ = some (.int .i64 ((rd_T30 l0 x13_1).f0.f0.f4)) := (blk_cell BK108.out 4).trans rfl; have hcz9_5 : w8.cell? ⟨gb108, 5, none⟩ = some (.int .u32 ((rd_T30 l0 x13_1).f0.f0.f5)) := (blk_cell BK108.out 5).trans rfl; have hcz9_6 : w8.cell? ⟨gb108, 6, none⟩ = some (.int .i64 ((rd_T30 l0 x13_1).f0.f0.f6)) := (blk_cell BK108.out 6).trans rfl; have hcz9_7 : w8.cell? ⟨gb108, 7, none⟩ = some (.int .i64 ((rd_T30 l0 x13_1).f0.f0.f7)) := (blk_cell BK108.out 7).trans rfl; have hcz9_8 : w8.cell? ⟨gb108, 8, none⟩ = some (.string ((rd_T30 l0 x13_1).f0.f0.f8)) := (blk_cell BK108.out 8).trans rfl; have hcz9_9 : w8.cell? ⟨gb108, 9, none⟩ = some (.string ((rd_T30 l0 x13_1).f0.f0.f9)) := (blk_cell BK108.out 9).trans rfl; have hcz9_10 : w8.cell? ⟨gb108, 10, none⟩ = some (.int .i64 ((rd_T30 l0 x13_1).f0.f1)) := (blk_cell BK108.out 10).trans rfl; have hcz9_11 : w8.cell? ⟨gb108, 11, none⟩ = some (.int .i64 ((rd_T30 l0 x13_1).f0.f2)) := (blk_cell BK108.out 11).trans rfl; have hcz9_12 : w8.cell? ⟨gb108, 12, none⟩ = some (.int .i64 ((rd_T30 l0 x13_1).f0.f3)) := (blk_cell BK108.out 12).trans rfl; have hcz9_13 : w8.cell? ⟨gb108, 13, none⟩ = some (.int .i64 ((rd_T30 l0 x13_1).f0.f4)) := (blk_cell BK108.out 13).trans rfl; have hcz9_14 : w8.cell? ⟨gb108, 14, none⟩ = some (.int .i64 ((rd_T30 l0 x13_1).f0.f5)) := (blk_cell BK108.out 14).trans rfl; have hcz9_15 : w8.cell? ⟨gb108, 15, none⟩ = some (.string ((rd_T30 l0 x13_1).f0.f6)) := (blk_cell BK108.out 15).trans rfl; have hcz9_16 : w8.cell? ⟨gb108, 16, none⟩ = some (.string ((rd_T30 l0 x13_1).f1)) := (blk_cell BK108.out 16).trans rfl; have hcz9_17 : w8.cell? ⟨gb108, 17, none⟩ = some (.int .i64 ((rd_T30 l0 x13_1).f2)) := (blk_cell BK108.out 17).trans rfl; have hcz9_18 : w8.cell? ⟨gb108, 18, none⟩ = some (.int .i64 ((rd_T30 l0 x13_1).f3)) := (blk_cell BK108.out 18).trans rfl; have hcz9_19 : w8.cell? ⟨gb108, 19, none⟩ = some (.int .i64 ((rd_T30 l0 x13_1).f4)) := (blk_cell BK108.out 19).trans rfl; have hfz9_0 := blk_frozen BK108.out 0; have hfz9_1 := blk_frozen BK108.out 1; have hfz9_2 := blk_frozen BK108.out 2; have hfz9_3 := blk_frozen BK108.out 3; have hfz9_4 := blk_frozen BK108.out 4; have hfz9_5 := blk_frozen BK108.out 5; have hfz9_6 := blk_frozen BK108.out 6; have hfz9_7 := blk_frozen BK108.out 7; have hfz9_8 := blk_frozen BK108.out 8; have hfz9_9 := blk_frozen BK108.out 9; have hfz9_10 := blk_frozen BK108.out 10; have hfz9_11 := blk_frozen BK108.out 11; have hfz9_12 := blk_frozen BK108.out 12; have hfz9_13 := blk_frozen BK108.out 13; have hfz9_14 := blk_frozen BK108.out 14; have hfz9_15 := blk_frozen BK108.out 15; have hfz9_16 := blk_frozen BK108.out 16; have hfz9_17 := blk_frozen BK108.out 17; have hfz9_18 := blk_frozen BK108.out 18; have hfz9_19 := blk_frozen BK108.out 19))
                go_roundg k1
                case measure => have := HK1.out; omega
                case rel => exact ⟨(wrap64 ((wrap64 (x5_1 + (wrap64 ((wrap64 ((wrap64 (46 + (((rd_T30 l0 x13_1).f0.f0.f8).size : Int))) + (((rd_T30 l0 x13_1).f0.f0.f9).size : Int))) + (((rd_T30 l0 x13_1).f0.f6).size : Int))))) + (wrap64 (((rd_T30 l0 x13_1).f4) - ((rd_T30 l0 x13_1).f2))))), (wrap64 (x13_1 + 1)), (by first | rfl | (simp; done) | (simp [*]; done)), (by first | rfl | (simp; done) | (simp [*]; done)), H', ⟨by have := HK1.out; omega⟩, ⟨by repeat (first | (with_reducible first | exact HB.out | apply below_alloc | apply pw_below_drewN | apply below_drew1 | refine below_set ?_ GE108.out) | exact HB.out)⟩⟩
              · rw [if_neg c7] at H
                have c7b0 : decide ((IntKind.u64.wrap ((IntKind.u64.wrap ((rd_T30 l0 x13_1).f4)) - (IntKind.u64.wrap ((rd_T30 l0 x13_1).f2)))) ≤ 16777216) = false := decide_eq_false c7
                clear c7
                have H' := Aside0.mk H
                clear H
                have p107 : 0 ≤ (x13_1 : Int) := of_decide_eq_true (by first | (with_reducible assumption) | assumption)
                have q107 : x13_1 < (l0.length : Int) := of_decide_eq_true (by first | (with_reducible assumption) | assumption)
                obtain ⟨ad107, cc107, e107, hlc107, hKc107, hcc107⟩ := Kd.C_get HR0.out z30 x13_1 p107 q107
                obtain rfl := k30_open hKc107
                clear hlc107 hKc107
                cases e107
                replace hcc107 := fun j_ u_ hu_ => (HB.out.cell (World.block_lt_of_cell? w _ (hcc107 j_ u_ hu_))).trans (hcc107 j_ u_ hu_)
                have HLD107 := Aside0.mk hcc107
                clear hcc107
                replace p107 := eq_true p107
                replace q107 := eq_true q107
                go_wp2_with (first | ((with_reducible refine gate_load (ty := 30) rfl ?_); refine agg_load 30 _ rfl rfl _ rfl [.int .i64 ((rd_T30 l0 x13_1).f0.f0.f0), .int .i64 ((rd_T30 l0 x13_1).f0.f0.f1), .int .i64 ((rd_T30 l0 x13_1).f0.f0.f2), .int .i64 ((rd_T30 l0 x13_1).f0.f0.f3), .int .i64 ((rd_T30 l0 x13_1).f0.f0.f4), .int .u32 ((rd_T30 l0 x13_1).f0.f0.f5), .int .i64 ((rd_T30 l0 x13_1).f0.f0.f6), .int .i64 ((rd_T30 l0 x13_1).f0.f0.f7), .string ((rd_T30 l0 x13_1).f0.f0.f8), .string ((rd_T30 l0 x13_1).f0.f0.f9), .int .i64 ((rd_T30 l0 x13_1).f0.f1), .int .i64 ((rd_T30 l0 x13_1).f0.f2), .int .i64 ((rd_T30 l0 x13_1).f0.f3), .int .i64 ((rd_T30 l0 x13_1).f0.f4), .int .i64 ((rd_T30 l0 x13_1).f0.f5), .string ((rd_T30 l0 x13_1).f0.f6), .string ((rd_T30 l0 x13_1).f1), .int .i64 ((rd_T30 l0 x13_1).f2), .int .i64 ((rd_T30 l0 x13_1).f3), .int .i64 ((rd_T30 l0 x13_1).f4)] Try.underlying30 rfl info30 (agg_at HLD107.out) ?_) | ((with_reducible refine gate_dst (N := 7) rfl ?_); refine box2_event ?hg (N := 7) ?hd ?hg2 (zs := #[.int .i64 0, .int .i64 0, .int .i64 0, .int .i64 0, .int .i64 0, .int .u32 0, .int .i64 0, .int .i64 0, .string (⟨#[]⟩ : ByteArray), .string (⟨#[]⟩ : ByteArray), .int .i64 0, .int .i64 0, .int .i64 0, .int .i64 0, .int .i64 0, .string (⟨#[]⟩ : ByteArray), .string (⟨#[]⟩ : ByteArray), .int .i64 0, .int .i64 0, .int .i64 0]) (cs := [.int .i64 ((rd_T30 l0 x13_1).f0.f0.f0), .int .i64 ((rd_T30 l0 x13_1).f0.f0.f1), .int .i64 ((rd_T30 l0 x13_1).f0.f0.f2), .int .i64 ((rd_T30 l0 x13_1).f0.f0.f3), .int .i64 ((rd_T30 l0 x13_1).f0.f0.f4), .int .u32 ((rd_T30 l0 x13_1).f0.f0.f5), .int .i64 ((rd_T30 l0 x13_1).f0.f0.f6), .int .i64 ((rd_T30 l0 x13_1).f0.f0.f7), .string ((rd_T30 l0 x13_1).f0.f0.f8), .string ((rd_T30 l0 x13_1).f0.f0.f9), .int .i64 ((rd_T30 l0 x13_1).f0.f1), .int .i64 ((rd_T30 l0 x13_1).f0.f2), .int .i64 ((rd_T30 l0 x13_1).f0.f3), .int .i64 ((rd_T30 l0 x13_1).f0.f4), .int .i64 ((rd_T30 l0 x13_1).f0.f5), .string ((rd_T30 l0 x13_1).f0.f6), .string ((rd_T30 l0 x13_1).f1), .int .i64 ((rd_T30 l0 x13_1).f2), .int .i64 ((rd_T30 l0 x13_1).f3), .int .i64 ((rd_T30 l0 x13_1).f4)]) (t := 30) (.tmp 16) ?ho2 ?hr ?hx ?hy info30 ?hn ?hold ?h1 ?_; (case hd => rfl); (case hg => rfl); (case hg2 => rfl); (case ho2 => rfl); (case hr => first | (go_simp; done) | (go_simp; rfl)); (case hx => rfl); (case hy => first | rfl | (go_simp; done) | (go_simp; rfl)); (case hn => rfl); (case hold => rfl); (case h1 => rfl); intro gb108 hg w10 hbox hb; have n0_ := Aside0.mk (below_step (by repeat (first | (with_reducible first | exact HB.out | apply below_alloc | apply pw_below_drewN | apply below_drew1) | exact HB.out)) hb); have n1_ := Aside0.mk (hbox); have n2_ := Aside0.mk ((by rw [hg]; exact (below_size (by repeat (first | (with_reducible first | exact HB.out | apply below_alloc | apply pw_below_drewN | apply below_drew1) | exact HB.out))) : w.heap.size ≤ gb108)); have n3_ := Aside0.mk ((by rw [hg]; exact (below_size (by repeat (first | (with_reducible first | exact HB.out | apply below_alloc | apply pw_below_drewN | apply below_drew1) | exact HB.out))) : w.heap.size ≤ gb108)); clear HB; have HB := n0_; have BK108 := n1_; have GW108 := n2_; have GE108 := n3_; clear n0_ n1_ n2_ n3_; clear hb hbox hg; have hcz11_0 : w10.cell? ⟨gb108, 0, none⟩ = some (.int .i64 ((rd_T30 l0 x13_1).f0.f0.f0)) := (blk_cell BK108.out 0).trans rfl; have hcz11_1 : w10.cell? ⟨gb108, 1, none⟩ = some (.int .i64 ((rd_T30 l0 x13_1).f0.f0.f1)) := (blk_cell BK108.out 1).trans rfl; have hcz11_2 : w10.cell? ⟨gb108, 2, none⟩ = some (.int .i64 ((rd_T30 l0 x13_1).f0.f0.f2)) := (blk_cell BK108.out 2).trans rfl; have hcz11_3 : w10.cell? ⟨gb108, 3, none⟩ = some (.int .i64 ((rd_T30 l0 x13_1).f0.f0.f3)) := (blk_cell BK108.out 3).trans rfl; have hcz11_4 : w10.cell? ⟨gb108, 4, none⟩ = some (.int .i64 ((rd_T30 l0 x13_1).f0.f0.f4)) := (blk_cell BK108.out 4).trans rfl; have hcz11_5 : w10.cell? ⟨gb108, 5, none⟩ = some (.int .u32 ((rd_T30 l0 x13_1).f0.f0.f5)) := (blk_cell BK108.out 5).trans rfl; have hcz11_6 : w10.cell? ⟨gb108, 6, none⟩ = some (.int .i64 ((rd_T30 l0 x13_1).f0.f0.f6)) := (blk_cell BK108.out 6).trans rfl; have hcz11_7 : w10.cell? ⟨gb108, 7, none⟩ = some (.int .i64 ((rd_T30 l0 x13_1).f0.f0.f7)) := (blk_cell BK108.out 7).trans rfl; have hcz11_8 : w10.cell? ⟨gb108, 8, none⟩ = some (.string ((rd_T30 l0 x13_1).f0.f0.f8)) := (blk_cell BK108.out 8).trans rfl; have hcz11_9 : w10.cell? ⟨gb108, 9, none⟩ = some (.string ((rd_T30 l0 x13_1).f0.f0.f9)) := (blk_cell BK108.out 9).trans rfl; have hcz11_10 : w10.cell? ⟨gb108, 10, none⟩ = some (.int .i64 ((rd_T30 l0 x13_1).f0.f1)) := (blk_cell BK108.out 10).trans rfl; have hcz11_11 : w10.cell? ⟨gb108, 11, none⟩ = some (.int .i64 ((rd_T30 l0 x13_1).f0.f2)) := (blk_cell BK108.out 11).trans rfl; have hcz11_12 : w10.cell? ⟨gb108, 12, none⟩ = some (.int .i64 ((rd_T30 l0 x13_1).f0.f3)) := (blk_cell BK108.out 12).trans rfl; have hcz11_13 : w10.cell? ⟨gb108, 13, none⟩ = some (.int .i64 ((rd_T30 l0 x13_1).f0.f4)) := (blk_cell BK108.out 13).trans rfl; have hcz11_14 : w10.cell? ⟨gb108, 14, none⟩ = some (.int .i64 ((rd_T30 l0 x13_1).f0.f5)) := (blk_cell BK108.out 14).trans rfl; have hcz11_15 : w10.cell? ⟨gb108, 15, none⟩ = some (.string ((rd_T30 l0 x13_1).f0.f6)) := (blk_cell BK108.out 15).trans rfl; have hcz11_16 : w10.cell? ⟨gb108, 16, none⟩ = some (.string ((rd_T30 l0 x13_1).f1)) := (blk_cell BK108.out 16).trans rfl; have hcz11_17 : w10.cell? ⟨gb108, 17, none⟩ = some (.int .i64 ((rd_T30 l0 x13_1).f2)) := (blk_cell BK108.out 17).trans rfl; have hcz11_18 : w10.cell? ⟨gb108, 18, none⟩ = some (.int .i64 ((rd_T30 l0 x13_1).f3)) := (blk_cell BK108.out 18).trans rfl; have hcz11_19 : w10.cell? ⟨gb108, 19, none⟩ = some (.int .i64 ((rd_T30 l0 x13_1).f4)) := (blk_cell BK108.out 19).trans rfl; have hfz11_0 := blk_frozen BK108.out 0; have hfz11_1 := blk_frozen BK108.out 1; have hfz11_2 := blk_frozen BK108.out 2; have hfz11_3 := blk_frozen BK108.out 3; have hfz11_4 := blk_frozen BK108.out 4; have hfz11_5 := blk_frozen BK108.out 5; have hfz11_6 := blk_frozen BK108.out 6; have hfz11_7 := blk_frozen BK108.out 7; have hfz11_8 := blk_frozen BK108.out 8; have hfz11_9 := blk_frozen BK108.out 9; have hfz11_10 := blk_frozen BK108.out 10; have hfz11_11 := blk_frozen BK108.out 11; have hfz11_12 := blk_frozen BK108.out 12; have hfz11_13 := blk_frozen BK108.out 13; have hfz11_14 := blk_frozen BK108.out 14; have hfz11_15 := blk_frozen BK108.out 15; have hfz11_16 := blk_frozen BK108.out 16; have hfz11_17 := blk_frozen BK108.out 17; have hfz11_18 := blk_frozen BK108.out 18; have hfz11_19 := blk_frozen BK108.out 19))
                go_roundg k1
                case measure => have := HK1.out; omega
                case rel => exact ⟨(wrap64 (x5_1 + (wrap64 ((wrap64 ((wrap64 (46 + (((rd_T30 l0 x13_1).f0.f0.f8).size : Int))) + (((rd_T30 l0 x13_1).f0.f0.f9).size : Int))) + (((rd_T30 l0 x13_1).f0.f6).size : Int))))), (wrap64 (x13_1 + 1)), (by first | rfl | (simp; done) | (simp [*]; done)), (by first | rfl | (simp; done) | (simp [*]; done)), H', ⟨by have := HK1.out; omega⟩, ⟨by repeat (first | (with_reducible first | exact HB.out | apply below_alloc | apply pw_below_drewN | apply below_drew1 | refine below_set ?_ GE108.out) | exact HB.out)⟩⟩
            · rw [if_neg c6] at H
              have c6b0 : decide (((rd_T30 l0 x13_1).f2) < ((rd_T30 l0 x13_1).f4)) = false := decide_eq_false c6
              clear c6
              have H' := Aside0.mk H
              clear H
              have p107 : 0 ≤ (x13_1 : Int) := of_decide_eq_true (by first | (with_reducible assumption) | assumption)
              have q107 : x13_1 < (l0.length : Int) := of_decide_eq_true (by first | (with_reducible assumption) | assumption)
              obtain ⟨ad107, cc107, e107, hlc107, hKc107, hcc107⟩ := Kd.C_get HR0.out z30 x13_1 p107 q107
              obtain rfl := k30_open hKc107
              clear hlc107 hKc107
              cases e107
              replace hcc107 := fun j_ u_ hu_ => (HB.out.cell (World.block_lt_of_cell? w _ (hcc107 j_ u_ hu_))).trans (hcc107 j_ u_ hu_)
              have HLD107 := Aside0.mk hcc107
              clear hcc107
              replace p107 := eq_true p107
              replace q107 := eq_true q107
              go_wp2_with (first | ((with_reducible refine gate_load (ty := 30) rfl ?_); refine agg_load 30 _ rfl rfl _ rfl [.int .i64 ((rd_T30 l0 x13_1).f0.f0.f0), .int .i64 ((rd_T30 l0 x13_1).f0.f0.f1), .int .i64 ((rd_T30 l0 x13_1).f0.f0.f2), .int .i64 ((rd_T30 l0 x13_1).f0.f0.f3), .int .i64 ((rd_T30 l0 x13_1).f0.f0.f4), .int .u32 ((rd_T30 l0 x13_1).f0.f0.f5), .int .i64 ((rd_T30 l0 x13_1).f0.f0.f6), .int .i64 ((rd_T30 l0 x13_1).f0.f0.f7), .string ((rd_T30 l0 x13_1).f0.f0.f8), .string ((rd_T30 l0 x13_1).f0.f0.f9), .int .i64 ((rd_T30 l0 x13_1).f0.f1), .int .i64 ((rd_T30 l0 x13_1).f0.f2), .int .i64 ((rd_T30 l0 x13_1).f0.f3), .int .i64 ((rd_T30 l0 x13_1).f0.f4), .int .i64 ((rd_T30 l0 x13_1).f0.f5), .string ((rd_T30 l0 x13_1).f0.f6), .string ((rd_T30 l0 x13_1).f1), .int .i64 ((rd_T30 l0 x13_1).f2), .int .i64 ((rd_T30 l0 x13_1).f3), .int .i64 ((rd_T30 l0 x13_1).f4)] Try.underlying30 rfl info30 (agg_at HLD107.out) ?_) | ((with_reducible refine gate_dst (N := 7) rfl ?_); refine box2_event ?hg (N := 7) ?hd ?hg2 (zs := #[.int .i64 0, .int .i64 0, .int .i64 0, .int .i64 0, .int .i64 0, .int .u32 0, .int .i64 0, .int .i64 0, .string (⟨#[]⟩ : ByteArray), .string (⟨#[]⟩ : ByteArray), .int .i64 0, .int .i64 0, .int .i64 0, .int .i64 0, .int .i64 0, .string (⟨#[]⟩ : ByteArray), .string (⟨#[]⟩ : ByteArray), .int .i64 0, .int .i64 0, .int .i64 0]) (cs := [.int .i64 ((rd_T30 l0 x13_1).f0.f0.f0), .int .i64 ((rd_T30 l0 x13_1).f0.f0.f1), .int .i64 ((rd_T30 l0 x13_1).f0.f0.f2), .int .i64 ((rd_T30 l0 x13_1).f0.f0.f3), .int .i64 ((rd_T30 l0 x13_1).f0.f0.f4), .int .u32 ((rd_T30 l0 x13_1).f0.f0.f5), .int .i64 ((rd_T30 l0 x13_1).f0.f0.f6), .int .i64 ((rd_T30 l0 x13_1).f0.f0.f7), .string ((rd_T30 l0 x13_1).f0.f0.f8), .string ((rd_T30 l0 x13_1).f0.f0.f9), .int .i64 ((rd_T30 l0 x13_1).f0.f1), .int .i64 ((rd_T30 l0 x13_1).f0.f2), .int .i64 ((rd_T30 l0 x13_1).f0.f3), .int .i64 ((rd_T30 l0 x13_1).f0.f4), .int .i64 ((rd_T30 l0 x13_1).f0.f5), .string ((rd_T30 l0 x13_1).f0.f6), .string ((rd_T30 l0 x13_1).f1), .int .i64 ((rd_T30 l0 x13_1).f2), .int .i64 ((rd_T30 l0 x13_1).f3), .int .i64 ((rd_T30 l0 x13_1).f4)]) (t := 30) (.tmp 16) ?ho2 ?hr ?hx ?hy info30 ?hn ?hold ?h1 ?_; (case hd => rfl); (case hg => rfl); (case hg2 => rfl); (case ho2 => rfl); (case hr => first | (go_simp; done) | (go_simp; rfl)); (case hx => rfl); (case hy => first | rfl | (go_simp; done) | (go_simp; rfl)); (case hn => rfl); (case hold => rfl); (case h1 => rfl); intro gb108 hg w12 hbox hb; have n0_ := Aside0.mk (below_step (by repeat (first | (with_reducible first | exact HB.out | apply below_alloc | apply pw_below_drewN | apply below_drew1) | exact HB.out)) hb); have n1_ := Aside0.mk (hbox); have n2_ := Aside0.mk ((by rw [hg]; exact (below_size (by repeat (first | (with_reducible first | exact HB.out | apply below_alloc | apply pw_below_drewN | apply below_drew1) | exact HB.out))) : w.heap.size ≤ gb108)); have n3_ := Aside0.mk ((by rw [hg]; exact (below_size (by repeat (first | (with_reducible first | exact HB.out | apply below_alloc | apply pw_below_drewN | apply below_drew1) | exact HB.out))) : w.heap.size ≤ gb108)); clear HB; have HB := n0_; have BK108 := n1_; have GW108 := n2_; have GE108 := n3_; clear n0_ n1_ n2_ n3_; clear hb hbox hg; have hcz13_0 : w12.cell? ⟨gb108, 0, none⟩ = some (.int .i64 ((rd_T30 l0 x13_1).f0.f0.f0)) := (blk_cell BK108.out 0).trans rfl; have hcz13_1 : w12.cell? ⟨gb108, 1, none⟩ = some (.int .i64 ((rd_T30 l0 x13_1).f0.f0.f1)) := (blk_cell BK108.out 1).trans rfl; have hcz13_2 : w12.cell? ⟨gb108, 2, none⟩ = some (.int .i64 ((rd_T30 l0 x13_1).f0.f0.f2)) := (blk_cell BK108.out 2).trans rfl; have hcz13_3 : w12.cell? ⟨gb108, 3, none⟩ = some (.int .i64 ((rd_T30 l0 x13_1).f0.f0.f3)) := (blk_cell BK108.out 3).trans rfl; have hcz13_4 : w12.cell? ⟨gb108, 4, none⟩ = some (.int .i64 ((rd_T30 l0 x13_1).f0.f0.f4)) := (blk_cell BK108.out 4).trans rfl; have hcz13_5 : w12.cell? ⟨gb108, 5, none⟩ = some (.int .u32 ((rd_T30 l0 x13_1).f0.f0.f5)) := (blk_cell BK108.out 5).trans rfl; have hcz13_6 : w12.cell? ⟨gb108, 6, none⟩ = some (.int .i64 ((rd_T30 l0 x13_1).f0.f0.f6)) := (blk_cell BK108.out 6).trans rfl; have hcz13_7 : w12.cell? ⟨gb108, 7, none⟩ = some (.int .i64 ((rd_T30 l0 x13_1).f0.f0.f7)) := (blk_cell BK108.out 7).trans rfl; have hcz13_8 : w12.cell? ⟨gb108, 8, none⟩ = some (.string ((rd_T30 l0 x13_1).f0.f0.f8)) := (blk_cell BK108.out 8).trans rfl; have hcz13_9 : w12.cell? ⟨gb108, 9, none⟩ = some (.string ((rd_T30 l0 x13_1).f0.f0.f9)) := (blk_cell BK108.out 9).trans rfl; have hcz13_10 : w12.cell? ⟨gb108, 10, none⟩ = some (.int .i64 ((rd_T30 l0 x13_1).f0.f1)) := (blk_cell BK108.out 10).trans rfl; have hcz13_11 : w12.cell? ⟨gb108, 11, none⟩ = some (.int .i64 ((rd_T30 l0 x13_1).f0.f2)) := (blk_cell BK108.out 11).trans rfl; have hcz13_12 : w12.cell? ⟨gb108, 12, none⟩ = some (.int .i64 ((rd_T30 l0 x13_1).f0.f3)) := (blk_cell BK108.out 12).trans rfl; have hcz13_13 : w12.cell? ⟨gb108, 13, none⟩ = some (.int .i64 ((rd_T30 l0 x13_1).f0.f4)) := (blk_cell BK108.out 13).trans rfl; have hcz13_14 : w12.cell? ⟨gb108, 14, none⟩ = some (.int .i64 ((rd_T30 l0 x13_1).f0.f5)) := (blk_cell BK108.out 14).trans rfl; have hcz13_15 : w12.cell? ⟨gb108, 15, none⟩ = some (.string ((rd_T30 l0 x13_1).f0.f6)) := (blk_cell BK108.out 15).trans rfl; have hcz13_16 : w12.cell? ⟨gb108, 16, none⟩ = some (.string ((rd_T30 l0 x13_1).f1)) := (blk_cell BK108.out 16).trans rfl; have hcz13_17 : w12.cell? ⟨gb108, 17, none⟩ = some (.int .i64 ((rd_T30 l0 x13_1).f2)) := (blk_cell BK108.out 17).trans rfl; have hcz13_18 : w12.cell? ⟨gb108, 18, none⟩ = some (.int .i64 ((rd_T30 l0 x13_1).f3)) := (blk_cell BK108.out 18).trans rfl; have hcz13_19 : w12.cell? ⟨gb108, 19, none⟩ = some (.int .i64 ((rd_T30 l0 x13_1).f4)) := (blk_cell BK108.out 19).trans rfl; have hfz13_0 := blk_frozen BK108.out 0; have hfz13_1 := blk_frozen BK108.out 1; have hfz13_2 := blk_frozen BK108.out 2; have hfz13_3 := blk_frozen BK108.out 3; have hfz13_4 := blk_frozen BK108.out 4; have hfz13_5 := blk_frozen BK108.out 5; have hfz13_6 := blk_frozen BK108.out 6; have hfz13_7 := blk_frozen BK108.out 7; have hfz13_8 := blk_frozen BK108.out 8; have hfz13_9 := blk_frozen BK108.out 9; have hfz13_10 := blk_frozen BK108.out 10; have hfz13_11 := blk_frozen BK108.out 11; have hfz13_12 := blk_frozen BK108.out 12; have hfz13_13 := blk_frozen BK108.out 13; have hfz13_14 := blk_frozen BK108.out 14; have hfz13_15 := blk_frozen BK108.out 15; have hfz13_16 := blk_frozen BK108.out 16; have hfz13_17 := blk_frozen BK108.out 17; have hfz13_18 := blk_frozen BK108.out 18; have hfz13_19 := blk_frozen BK108.out 19))
              go_roundg k1
              case measure => have := HK1.out; omega
              case rel => exact ⟨(wrap64 (x5_1 + (wrap64 ((wrap64 ((wrap64 (46 + (((rd_T30 l0 x13_1).f0.f0.f8).size : Int))) + (((rd_T30 l0 x13_1).f0.f0.f9).size : Int))) + (((rd_T30 l0 x13_1).f0.f6).size : Int))))), (wrap64 (x13_1 + 1)), (by first | rfl | (simp; done) | (simp [*]; done)), (by first | rfl | (simp; done) | (simp [*]; done)), H', ⟨by have := HK1.out; omega⟩, ⟨by repeat (first | (with_reducible first | exact HB.out | apply below_alloc | apply pw_below_drewN | apply below_drew1 | refine below_set ?_ GE108.out) | exact HB.out)⟩⟩
          · rw [if_neg c5] at H
            exact absurd H (by simp)
        · rw [if_neg c4] at H
          exact absurd H (by simp)
      · rw [if_neg c3] at H
        have c3b0 : decide (x13_1 < (l0.length : Int)) = false := decide_eq_false c3
        clear c3
        obtain rfl := Option.some.inj H
        go_wp2
        go_ret
        exact ⟨by first | rfl | (simp [errW_none, errW_some] <;> rfl) | (simp [*, errW_none, errW_some] <;> rfl), by repeat (first | (with_reducible first | exact HB.out | apply below_alloc | apply pw_below_drewN | apply below_drew1) | exact HB.out)⟩

end Go.Proofs.Ytehpkbkffaolaaa.PL
