/- The heap of ints: Pop. -/
import Derived.Test.YtekcpcipbccodaaHpB
namespace Go.Proofs.Ytekcpcipbccodaa.Mem
open Go.RowKit Go.Proofs.YtekcpcipbccodaaW.PrintWords Go.Proofs.YtekcpcipbccodaaW.PrintLast Go.Proofs.YtekcpcipbccodaaW.PrintMore
set_option linter.unusedVariables false
set_option linter.unusedSimpArgs false

theorem HpI.drewN {w : World} {g : Nat} {v : Value} {l : List Nd} {t : Int} (h : HpI w g v l t) (n : Nat) : HpI (w.drewN n) g v l t := ⟨h.1, h.2⟩
theorem pop_none (w : World) : Calls Try.prog 34 #[.pointer none] w fun e w' => e = .returned (.tuple #[.int .i64 0, .int .i64 0, .bool false]) ∧ Drawn0 w w' := by
  go_enter Try.func34, Try.ntmps34
  go_wp2_with (first | (go_at_call 45; refine (peek_none _).mono ?_; rintro e w2 ⟨rfl, n, rfl⟩))
  go_ret3
  exact ⟨rfl, ⟨_, rfl⟩⟩
theorem pop_empty (w : World) (g : Nat) (v : Value) (t : Int) (h : HpI w g v [] t) : Calls Try.prog 34 #[.pointer (some ⟨g, 0, none⟩)] w fun e w' => e = .returned (.tuple #[.int .i64 0, .int .i64 0, .bool false]) ∧ Drawn0 w w' := by
  go_enter Try.func34, Try.ntmps34
  go_wp2_with (first | (go_at_call 45; refine (peek_empty _ g v t h).mono ?_; rintro e w2 ⟨rfl, n, rfl⟩))
  go_ret3
  exact ⟨rfl, ⟨_, rfl⟩⟩
/-- What Pop leaves: the last node at the first place, sifted. -/
def popped (x : Nd) (l : List Nd) : List Nd := down (l.length + 1) (((x :: l).set 0 (x :: l)[l.length]!).take l.length) 0

theorem cut_HpI {w : World} {g b cap n : Nat} {l : List Nd} {t : Int} (h : HpI w g (.slice (some ⟨b, 0, none⟩) (n + 1) cap) l t) (hl : l.length = n + 1) :
    HpI (w.setCell ⟨g, 0, none⟩ (.slice (some ⟨b, 0, none⟩) n cap)) g (.slice (some ⟨b, 0, none⟩) n cap) (l.take n) t := by
  obtain ⟨hg, hr⟩ := h
  rcases hr.2 with ⟨h0, _⟩ | ⟨b', cap', cur, hv, _, hb, hc, hm, hcs, ht⟩
  · cases h0
  · simp only [Value.slice.injEq, Option.some.injEq, Addr.mk.injEq] at hv
    obtain ⟨⟨rfl, _⟩, _, rfl⟩ := hv
    have hgb : g ≠ b := blk_ne hg hb (by decide)
    have hln : (l.take n).length = n := by simp; omega
    refine ⟨by simpa using blk_set hg 0 (.slice (some ⟨b, 0, none⟩) n cap), by rw [flat_length encN_len], .inr ⟨b, cap, cur, by rw [hln], Nat.zero_le _, blk_far hb (Ne.symm hgb) _, by omega, hm, hcs, ?_⟩⟩
    rw [hln]
    have h2 : cur.toList.take (n * 3) = (l.flatMap encN).take (n * 3) := by rw [← ht, List.take_take, Nat.min_eq_left (by omega)]
    rw [h2]
    have h3 : l = l.take n ++ l.drop n := (List.take_append_drop n l).symm
    conv => lhs; rw [h3, List.flatMap_append]
    rw [List.take_append_of_le_length (by rw [flat_length encN_len, hln]; omega), List.take_of_length_le (by rw [flat_length encN_len, hln]; omega)]
set_option maxHeartbeats 8000000 in
set_option maxRecDepth 100000 in
theorem pop_some (w : World) (g : Nat) (v : Value) (x : Nd) (l : List Nd) (t : Int) (h : HpI w g v (x :: l) t) (hl : (l.length + 1) * 24 ≤ 140737488355328) : Calls Try.prog 34 #[.pointer (some ⟨g, 0, none⟩)] w fun e w' =>
    ∃ v', e = .returned (.tuple #[.int .i64 x.key, .int .i64 x.val, .bool true]) ∧ HpI w' g v' (popped x l) t ∧ v'.ownBlock = v.ownBlock ∧ Frm (foot g v) w w' := by
  obtain ⟨b, cap, rfl⟩ : ∃ b cap, v = .slice (some ⟨b, 0, none⟩) (l.length + 1) cap := by
    rcases h.2.2 with ⟨_, h0⟩ | ⟨b, cap, cur, rfl, _⟩
    · simp at h0
    · exact ⟨b, cap, rfl⟩
  have hH := Aside0.mk h
  obtain ⟨y, hy⟩ : ∃ y, (x :: l)[l.length]? = some y := ⟨_, List.getElem?_eq_getElem (by simp)⟩
  obtain ⟨hg, hr⟩ := h
  obtain ⟨cur, hb, ht⟩ := row_open hr (by simp)
  have hgb : g ≠ b := blk_ne hg hb (by decide)
  have h0 : w.cell? ⟨g, 0, none⟩ = some (.slice (some ⟨b, 0, none⟩) (l.length + 1) cap) := blk_cell hg 0
  have fg0 : w.frozen? ⟨g, 0, none⟩ = false := blk_frozen hg 0
  obtain ⟨y0, y1, y2⟩ := row_cells hb ht hy
  obtain ⟨x0, x1, x2⟩ := row_cells hb ht (i := 0) (x := x) rfl
  simp only [Nat.zero_mul, Nat.zero_add] at x0 x1 x2
  have fx0 : w.frozen? ⟨b, 0, none⟩ = false := blk_frozen hb _
  have fx1 : w.frozen? ⟨b, 1, none⟩ = false := blk_frozen hb _
  have fx2 : w.frozen? ⟨b, 2, none⟩ = false := blk_frozen hb _
  have b1 : (l.length : Int) < (l.length : Int) + 1 := by omega
  have b2 : (0 : Int) < (l.length : Int) + 1 := by omega
  go_enter Try.func34, Try.ntmps34
  go_wp2_with (first | (go_at_call 45; refine (peek_some _ g _ x l t hH.out).mono ?_; rintro e w2 ⟨rfl, n, rfl⟩))
  go_region
  have hI1 := setN_HpI (l := x :: l) (b := b) (cap := cap) ((hH.out).drewN (n + 1)) (i := 0) (by simp) y
  have hF1 : Frm (foot g (.slice (some ⟨b, 0, none⟩) (l.length + 1) cap)) w (setN (w.drewN (n + 1)) b (0 * 3) y) := ((Frm.refl _ w).drewN (n + 1)).trans (setN_frm _ _ _ _) (fun k hk => .inl (.inr (by rw [hk]; rfl)))
  unfold setN at hI1 hF1
  simp only [Nat.zero_mul, Nat.zero_add] at hI1 hF1
  generalize (((w.drewN (n + 1)).setCell ⟨b, 0, none⟩ (Value.int IntKind.i64 y.key)).setCell ⟨b, 1, none⟩ (Value.int IntKind.i64 y.turn)).setCell ⟨b, 2, none⟩ (Value.int IntKind.i64 y.val) = w1 at hI1 hF1 ⊢
  clear x0 x1 x2 y0 y1 y2 fx0 fx1 fx2 h0 fg0 hb ht hr hg
  have hp1 : popped x l = down (l.length + 1) (((x :: l).set 0 y).take l.length) 0 := by unfold popped; rw [show (x :: l)[l.length]! = y by rw [List.getElem!_eq_getElem?_getD, hy]; rfl]
  have hl1 : ((x :: l).set 0 y).length = l.length + 1 := by simp
  generalize (x :: l).set 0 y = l1 at hI1 hl1 hp1
  have HP := Aside0.mk hp1
  clear hp1
  rw [hl1] at hI1
  have HI1 := Aside0.mk hI1
  have HF1 := Aside0.mk hF1
  obtain ⟨hg, hr⟩ := hI1
  obtain ⟨cur1, hb, ht⟩ := row_open hr hl1
  have hz := setN_HpI (l := l1) (b := b) (cap := cap) (by rw [hl1]; exact HI1.out) (i := l.length) (by omega) ⟨0, 0, 0⟩
  rw [List.length_set, hl1] at hz
  have hzc := cut_HpI hz (by simp [hl1])
  have h0 : w1.cell? ⟨g, 0, none⟩ = some (.slice (some ⟨b, 0, none⟩) (l.length + 1) cap) := blk_cell hg 0
  have fg0 : w1.frozen? ⟨g, 0, none⟩ = false := blk_frozen hg 0
  obtain ⟨e0, e1, e2⟩ := row_cells hb ht (i := l.length) (x := l1[l.length]'(by omega)) (List.getElem?_eq_getElem _)
  have fe0 : w1.frozen? ⟨b, l.length * 3, none⟩ = false := blk_frozen hb _
  have fe1 : w1.frozen? ⟨b, l.length * 3 + 1, none⟩ = false := blk_frozen hb _
  have fe2 : w1.frozen? ⟨b, l.length * 3 + 2, none⟩ = false := blk_frozen hb _
  have hzF : Frm (foot g (.slice (some ⟨b, 0, none⟩) (l.length + 1) cap)) w ((setN w1 b (l.length * 3) ⟨0, 0, 0⟩).setCell ⟨g, 0, none⟩ (.slice (some ⟨b, 0, none⟩) l.length cap)) := (HF1.out.trans (setN_frm _ _ _ _) (fun k hk => .inl (.inr (by rw [hk]; rfl)))).setCell (.inl (.inl rfl)) _
  have htk : (l1.set l.length ⟨0, 0, 0⟩).take l.length = l1.take l.length := by rw [List.take_set_of_le (Nat.le_refl _)]
  rw [htk] at hzc
  unfold setN at hzc hzF
  have HZ := Aside0.mk hzc
  have HZF := Aside0.mk hzF
  clear hzc hzF hz hr hb ht hg
  have b3 : (l.length : Int) ≤ (cap : Int) := by
    have := HI1.out.2.2
    rcases this with ⟨h0, _⟩ | ⟨b', cap', cur, hv, _, hb, hc, _⟩
    · cases h0
    · simp only [Value.slice.injEq] at hv
      omega
  go_upto_region 8 with fail
  generalize ((((w1.setCell ⟨b, l.length * 3, none⟩ (Value.int IntKind.i64 0)).setCell ⟨b, l.length * 3 + 1, none⟩ (Value.int IntKind.i64 0)).setCell ⟨b, l.length * 3 + 2, none⟩ (Value.int IntKind.i64 0)).setCell ⟨g, 0, none⟩ (Value.slice (some ⟨b, 0, none⟩) l.length cap)) = w2 at HZ HZF ⊢
  have hl2 : (l1.take l.length).length = l.length := by simp; omega
  have hz2 := HZ.out
  have hS := sift_calls w2 g b cap (l1.take l.length) t (by rw [hl2]; exact hz2) (by rw [hl2]; omega)
  rw [hl2] at hS
  have HS := Aside0.mk hS
  clear hS hz2
  go_wp2_with (first | (go_at_call 55; refine HS.out.mono ?_; rintro e w3 ⟨rfl, hI3, hF3⟩))
  go_ret3
  exact ⟨.slice (some ⟨b, 0, none⟩) l.length cap, rfl, by rw [HP.out]; exact hI3, rfl, HZF.out.trans hF3 (fun k hk => .inl (.inr (by rw [hk]; rfl)))⟩
end Go.Proofs.Ytekcpcipbccodaa.Mem
