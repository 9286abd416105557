/- The document's heap: Push, Peek, Pop: walked by hand. -/
import Derived.Test.YtekcpcipbccodaaHpR
namespace Go.Proofs.Ytekcpcipbccodaa.Mem
open Go.RowKit Go.Proofs.YtekcpcipbccodaaW.PrintWords Go.Proofs.YtekcpcipbccodaaW.PrintLast Go.Proofs.YtekcpcipbccodaaW.PrintMore
set_option linter.unusedVariables false
set_option linter.unusedSimpArgs false
theorem Try.infoN92 : (Try.prog.info? 92).map (fun i => (i.zero, i.size, i.bytes)) = some (some (.agg #[.int .i64 0, .int .i64 0]), 2, 16) := by kernel_rfl

theorem rpush_made {w w1 : World} {g gg cap : Nat} {v : Value} {l : List It} {key val : Int} (hg : w.heap[g]? = some (.cells #[v] 74 (0, 0))) (lg : g < w.heap.size) (ag : some g ≠ v.ownBlock)
    (hown1 : w1.ownsRow 0 92 2 (.slice (some ⟨gg, 0, none⟩) (l.length + 1) cap) (l.length + 1) (l.flatMap encR ++ [.int .i64 key, .int .i64 val]))
    (hgrow : (w.alloc (.cells #[.int .i64 key, .int .i64 val] 92)).grownBy w1 v.ownBlock) (hat : v.ownBlock = some gg ∨ gg = w.heap.size + 1) :
    ∃ v1, HpR (w1.setCell ⟨g, 0, none⟩ (.slice (some ⟨gg, 0, none⟩) (l.length + 1) cap)) g v1 (l ++ [⟨key, val⟩]) ∧ (v1.ownBlock = v.ownBlock ∨ ∃ b, v1.ownBlock = some b ∧ w.heap.size ≤ b) ∧ Frm (foot g v) w (w1.setCell ⟨g, 0, none⟩ (.slice (some ⟨gg, 0, none⟩) (l.length + 1) cap)) := by
  have hb1 : w1.heap[g]? = some (.cells #[v] 74 (0, 0)) := (hgrow.block g (by simp; omega) ag).trans (blk_alloc hg _)
  have hF1 : Frm (foot g v) w w1 := ((Frm.refl _ w).alloc _).trans (Frm.of_grown (S := foot g v) hgrow (fun k hk => .inr hk)) (fun k hk => .inl hk)
  have hne : g ≠ gg := by
    rcases hat with h | h
    · intro e; exact ag (by rw [h, e])
    · omega
  refine ⟨_, ⟨by simpa using blk_set hb1 0 (.slice (some ⟨gg, 0, none⟩) (l.length + 1) cap), ?_⟩, ?_, hF1.setCell (.inl (.inl rfl)) _⟩
  · have := ((Frm.refl (fun k => k = g) w1).setCell (p := ⟨g, 0, none⟩) (.inl rfl) (.slice (some ⟨gg, 0, none⟩) (l.length + 1) cap)).row hown1 (by rintro k e rfl; exact hne (Option.some.inj e).symm)
    simpa [encR] using this
  · rcases hat with h | h
    · exact .inl h.symm
    · exact .inr ⟨gg, rfl, by omega⟩

set_option maxHeartbeats 4000000 in
set_option maxRecDepth 100000 in
theorem rpush_calls (w : World) (g : Nat) (v : Value) (l : List It) (key val : Int) (h : HpR w g v l) (hl : (l.length + 1) * 16 ≤ 140737488355328) :
    Calls Try.prog 30 #[.pointer (some ⟨g, 0, none⟩), .int .i64 key, .int .i64 val] w fun e w' => ∃ v', e = .returned (.tuple #[]) ∧ HpR w' g v' (l ++ [⟨key, val⟩]) ∧
      (v'.ownBlock = v.ownBlock ∨ ∃ b, v'.ownBlock = some b ∧ w.heap.size ≤ b) ∧ Frm (foot g v) w w' := by
  obtain ⟨hg, hv⟩ := h
  obtain ⟨i0, hi0, hz0, hz1, hz2⟩ := info_parts Try.infoN92
  have lg := blk_lt hg
  have h0 : w.cell? ⟨g, 0, none⟩ = some v := blk_cell hg 0
  have f0 : w.frozen? ⟨g, 0, none⟩ = false := blk_frozen hg 0
  have ag : some g ≠ v.ownBlock := by
    rcases hv.2 with ⟨rfl, _⟩ | ⟨b, cap, cur, rfl, _, hb, _⟩
    · simp [Value.ownBlock]
    · simp only [Value.ownBlock, ne_eq, Option.some.injEq]
      exact blk_ne hg hb (by decide)
  go_enter Try.func30, Try.ntmps30
  go_wp2_with (at_builtin; refine wpList_append_lies _ (by rfl) _ _ _ (by rfl) 0 92 i0 _ 2 16 Try.underlying72 hi0 hz0 hz1 hz2 rfl (by omega) v l.length (l.flatMap encR) (by rfl) (hv.alloc _) ⟨w.heap.size, 0, none⟩ 1 1 [.int .i64 key, .int .i64 val] (by rfl) (by rfl) (World.news_of_block (cs := #[.int .i64 key, .int .i64 val]) (t := 92) (fr := (0, 0)) (heap_alloc_new w _)) (by simp [Value.oneCell']) (by omega) (by simp [maxLen]; omega) hl (by simp) (w.heap.size + 1) (by simp) ?_; intro gg cap w1 hown1 hgrow hat hlt; have q1 : w1.cell? ⟨g, 0, none⟩ = some v := (hgrow.cell_far ⟨g, 0, none⟩ (by simp; omega) ag).trans (by rw [World.cell?_alloc_lt _ _ _ lg]; exact h0); have q2 : w1.frozen? ⟨g, 0, none⟩ = false := (hgrow.frozen_far ⟨g, 0, none⟩ (by simp; omega) ag).trans (by rw [World.frozen?_alloc_old _ _ _ (Nat.ne_of_lt lg)]; exact f0))
  obtain ⟨v1, h1, h2, h3⟩ := rpush_made hg lg ag hown1 hgrow hat
  go_end0
  exact ⟨v1, rfl, h1, h2, h3⟩

theorem own_val {w : World} {base e size n : Nat} {v : Value} {xs : List Value} (h : w.ownsRow base e size v n xs) : ∃ A c, v = .slice A n c := by
  rcases h.2 with ⟨rfl, h0⟩ | ⟨b, cap, cur, rfl, _⟩
  · exact ⟨_, _, by rw [h0]⟩
  · exact ⟨_, _, rfl⟩
theorem fst_range (l : List It) : (fst l = -1 ∧ l = []) ∨ (0 ≤ fst l ∧ fst l < l.length) := by
  have key : ∀ (k : Nat) (best : Int) (i : Nat), 0 ≤ best → best < l.length → 0 ≤ fstGo l k best i ∧ fstGo l k best i < l.length := by
    intro k
    induction k with
    | zero => intro best i h1 h2; exact ⟨h1, h2⟩
    | succ k ih =>
      intro best i h1 h2
      unfold fstGo
      split
      · refine ih _ _ ?_ ?_ <;> split <;> omega
      · exact ⟨h1, h2⟩
  unfold fst
  cases l with
  | nil => exact .inl ⟨rfl, rfl⟩
  | cons x l =>
    refine .inr ?_
    rw [show (x :: l).length = l.length + 1 from rfl, fstGo, if_pos (by simp), if_pos (.inl (by omega))]
    exact key _ _ _ (by omega) (by simp)

set_option maxHeartbeats 4000000 in
theorem rpeek_empty (w : World) (g : Nat) (v : Value) (h : HpR w g v []) : Calls Try.prog 46 #[.pointer (some ⟨g, 0, none⟩)] w fun e w' => e = .returned (.tuple #[.int .i64 0, .int .i64 0, .bool false]) ∧ Drawn0 w w' := by
  have hF := first_calls w g v [] h (by simp)
  rw [show fst [] = -1 from rfl] at hF
  go_enter Try.func46, Try.ntmps46
  go_wp2_with (first | (go_at_call 54; refine hF.mono ?_; rintro e w2 ⟨rfl, n, rfl⟩))
  go_ret3
  exact ⟨rfl, ⟨_, rfl⟩⟩
set_option maxHeartbeats 4000000 in
theorem rpeek_some (w : World) (g : Nat) (v : Value) (l : List It) (h : HpR w g v l) (hl : l.length * 16 ≤ 140737488355328) (m : Nat) (x : It) (hm : fst l = (m : Int)) (hx : l[m]? = some x) : Calls Try.prog 46 #[.pointer (some ⟨g, 0, none⟩)] w fun e w' =>
    e = .returned (.tuple #[.int .i64 x.key, .int .i64 x.val, .bool true]) ∧ Drawn0 w w' := by
  have hF := first_calls w g v l h hl
  rw [hm] at hF
  have hml : m < l.length := (List.getElem?_eq_some_iff.1 hx).1
  obtain ⟨b, cap, cur, rfl, hb, ht⟩ := row_openR h.2 (by omega)
  obtain ⟨x0, x1⟩ := row_cellsR hb ht hx
  have h0 : w.cell? ⟨g, 0, none⟩ = some (.slice (some ⟨b, 0, none⟩) l.length cap) := blk_cell h.1 0
  have x0' : ∀ n, (w.drewN n).cell? ⟨b, m * 2, none⟩ = some (.int .i64 x.key) := fun _ => x0
  have x1' : ∀ n, (w.drewN n).cell? ⟨b, m * 2 + 1, none⟩ = some (.int .i64 x.val) := fun _ => x1
  have h0' : ∀ n, (w.drewN n).cell? ⟨g, 0, none⟩ = some (.slice (some ⟨b, 0, none⟩) l.length cap) := fun _ => h0
  have b0 : decide ((m : Int) < 0) = false := decide_eq_false (by omega)
  have b1 : (m : Int) < (l.length : Int) := by omega
  clear h hb ht h0 x0 x1
  go_enter Try.func46, Try.ntmps46
  go_wp2_with (first | (go_at_call 54; refine hF.mono ?_; rintro e w2 ⟨rfl, n, rfl⟩))
  go_quiet (fail)
  go_wp2
  go_ret3
  exact ⟨rfl, by repeat (first | exact Drawn0.refl _ | apply Drawn0.step)⟩

theorem take_erase_ne (l : List It) {j m : Nat} {y : It} (hy : l[j]? = some y) (hne : j ≠ m) : (l.take (j + 1)).eraseIdx m = (l.take j).eraseIdx m ++ [y] := by
  obtain ⟨hj, hyj⟩ := List.getElem?_eq_some_iff.1 hy
  rw [List.take_succ_eq_append_getElem hj, hyj]
  rcases Nat.lt_or_ge m j with h | h
  · rw [List.eraseIdx_append_of_lt_length (by simp; omega)]
  · rw [List.eraseIdx_of_length_le (by simp; omega), List.eraseIdx_of_length_le (by simp; omega)]
theorem take_erase_eq (l : List It) {m : Nat} (hm : m < l.length) : (l.take (m + 1)).eraseIdx m = (l.take m).eraseIdx m := by
  rw [List.take_succ_eq_append_getElem hm, List.eraseIdx_append_of_length_le (by simp; omega)]
  have h1 : (l.take m).length = m := by simp; omega
  have h2 : (l.take m).eraseIdx m = l.take m := List.eraseIdx_of_length_le (by omega)
  rw [h1, h2]
  simp

set_option maxHeartbeats 4000000 in
theorem rpop_empty (w : World) (g : Nat) (v : Value) (h : HpR w g v []) : Calls Try.prog 32 #[.pointer (some ⟨g, 0, none⟩)] w fun e w' => e = .returned (.tuple #[.int .i64 0, .int .i64 0, .bool false]) ∧ Drawn0 w w' := by
  have hF := first_calls w g v [] h (by simp)
  rw [show fst [] = -1 from rfl] at hF
  go_enter Try.func32, Try.ntmps32
  go_wp2_with (first | (go_at_call 54; refine hF.mono ?_; rintro e w2 ⟨rfl, n, rfl⟩))
  go_ret3
  exact ⟨rfl, ⟨_, rfl⟩⟩

set_option maxHeartbeats 8000000 in
set_option maxRecDepth 100000 in
theorem rpop_some (w : World) (g : Nat) (v : Value) (l : List It) (h : HpR w g v l) (hl : l.length * 16 ≤ 140737488355328) (m : Nat) (x : It) (hm : fst l = (m : Int)) (hx : l[m]? = some x) : Calls Try.prog 32 #[.pointer (some ⟨g, 0, none⟩)] w fun e w' =>
    ∃ v', e = .returned (.tuple #[.int .i64 x.key, .int .i64 x.val, .bool true]) ∧ HpR w' g v' (l.eraseIdx m) ∧ (∀ b, v'.ownBlock = some b → w.heap.size ≤ b) ∧ Frm (fun k => k = g) w w' := by
  have hF := first_calls w g v l h hl
  rw [hm] at hF
  obtain ⟨i0, hi0, hz0, hz1, hz2⟩ := info_parts Try.infoN92
  have hml : m < l.length := (List.getElem?_eq_some_iff.1 hx).1
  obtain ⟨b, cap, cur, rfl, hb, ht⟩ := row_openR h.2 (by omega)
  obtain ⟨x0, x1⟩ := row_cellsR hb ht hx
  have h0 : w.cell? ⟨g, 0, none⟩ = some (.slice (some ⟨b, 0, none⟩) l.length cap) := blk_cell h.1 0
  have b0 : decide ((m : Int) < 0) = false := decide_eq_false (by omega)
  have b1 : (m : Int) < (l.length : Int) := by omega
  have hgl0 := blk_lt h.1
  have hbl0 := blk_lt hb
  have hH := Aside0.mk h
  have hB := Aside0.mk hb
  have hT := Aside0.mk ht
  clear h hb ht
  go_enter Try.func32, Try.ntmps32
  go_upto_region 4 with (first | (go_at_call 54; refine hF.mono ?_; rintro e w2 ⟨rfl, n, rfl⟩))
  replace hH := Aside0.mk (hH.out.drewN n)
  have hW := Aside0.mk ((Frm.refl (fun _ => False) w).drewN n)
  replace hB : Aside0 ((w.drewN n).heap[b]? = some (.cells cur 92 (0, 0))) := ⟨hB.out⟩
  replace h0 : (w.drewN n).cell? ⟨g, 0, none⟩ = some (.slice (some ⟨b, 0, none⟩) l.length cap) := h0
  replace x0 : (w.drewN n).cell? ⟨b, m * 2, none⟩ = some (.int .i64 x.key) := x0
  replace x1 : (w.drewN n).cell? ⟨b, m * 2 + 1, none⟩ = some (.int .i64 x.val) := x1
  generalize w.drewN n = w1 at hH hW hB h0 x0 x1 ⊢
  go_upto_region 7 with fail
  obtain ⟨bx, hbx⟩ : ∃ bx, bx = w1.heap.size := ⟨_, rfl⟩
  have hbw : w.heap.size ≤ bx := hbx ▸ hW.out.size
  have hW2 := Aside0.mk (hW.out.alloc (.cells #[Value.int IntKind.i64 x.key, Value.int IntKind.i64 x.val] 92))
  have hX2 := Aside0.mk (blk_new w1 (.cells #[Value.int IntKind.i64 x.key, Value.int IntKind.i64 x.val] 92))
  have hH2 := Aside0.mk (hH.out.frm ((Frm.refl (fun _ => False) w1).alloc (.cells #[Value.int IntKind.i64 x.key, Value.int IntKind.i64 x.val] 92)) (fun _ _ h => h))
  have hB2 := Aside0.mk (blk_alloc hB.out (.cells #[Value.int IntKind.i64 x.key, Value.int IntKind.i64 x.val] 92))
  have hgl : g < w.heap.size := hgl0
  have hbl : b < w.heap.size := hbl0
  have hS2 : bx < (w1.alloc (.cells #[Value.int IntKind.i64 x.key, Value.int IntKind.i64 x.val] 92)).heap.size := by simp; omega
  rw [← hbx] at hX2 ⊢
  clear h0 x0 x1 hH hB hW
  generalize (w1.alloc (.cells #[Value.int IntKind.i64 x.key, Value.int IntKind.i64 x.val] 92)) = w2 at hW2 hX2 hH2 hB2 hS2 ⊢
  clear hbx
  go_loopg [7, 8] (l.length + 1) (fun gk v7 v8 wr => ∃ (j : Nat), v8 = .int .i64 j ∧ j ≤ l.length ∧ l.length + 1 ≤ j + gk ∧ Aside0 (wr.ownsRow (bx + 1) 92 2 v7 ((l.take j).eraseIdx m).length (((l.take j).eraseIdx m).flatMap encR)) ∧
      Aside0 (Frm (fun _ => False) w wr) ∧ Aside0 (wr.heap[bx]? = some (.cells #[.int .i64 x.key, .int .i64 x.val] 92 (0, 0))) ∧ Aside0 (HpR wr g (.slice (some ⟨b, 0, none⟩) l.length cap) l) ∧ Aside0 (wr.heap[b]? = some (.cells cur 92 (0, 0))))
  case atStart => exact ⟨0, by go_num, by omega, by omega, ⟨by simp, .inl ⟨rfl, by simp⟩⟩, hW2, hX2, hH2, hB2⟩
  case round =>
    obtain ⟨j, rfl, hjl, hgk, HV, HW, HX, HH, HB⟩ := hrel
    obtain ⟨A7, c7, e7⟩ := own_val HV.out
    subst e7
    have hnl : ((l.take j).eraseIdx m).length ≤ j := Nat.le_trans (List.length_eraseIdx_le _ _) (by rw [List.length_take]; exact Nat.min_le_left _ _)
    obtain ⟨R, hR⟩ : ∃ R, R = (l.take j).eraseIdx m := ⟨_, rfl⟩
    rw [← hR] at HV hnl ⊢
    have HR := Aside0.mk hR
    clear hR
    clear hW2 hX2 hH2 hB2 hS2
    have h0 : wr.cell? ⟨g, 0, none⟩ = some (.slice (some ⟨b, 0, none⟩) l.length cap) := blk_cell HH.out.1 0
    by_cases hj : j < l.length
    · have hjb : decide ((j : Int) < (l.length : Int)) = true := decide_eq_true (by omega)
      have hji : (j : Int) < (l.length : Int) := by omega
      obtain ⟨y, hy⟩ : ∃ y, l[j]? = some y := ⟨_, List.getElem?_eq_getElem (by omega)⟩
      by_cases he : j = m
      · subst he
        go_wp2_with fail
        go_roundg (l.length - j)
        case measure => omega
        case rel => exact ⟨j + 1, by go_num, by omega, by omega, by rw [take_erase_eq l hj, ← HR.out]; exact HV, HW, HX, HH, HB⟩
      · have hne : ((j : Int) != (m : Int)) = true := bne_iff_ne.2 (by omega)
        obtain ⟨y0, y1⟩ := row_cellsR HB.out hT.out hy
        have hvb := own_base HV.out
        have hws := HW.out.size
        have hbxl := blk_lt HX.out
        go_wp2_with (at_builtin; refine wpList_append_lies _ (by rfl) _ _ _ (by rfl) (bx + 1) 92 i0 _ 2 16 Try.underlying72 hi0 hz0 hz1 hz2 rfl (by omega) (.slice A7 R.length c7) R.length (R.flatMap encR) (by rfl) (HV.out.alloc _) ⟨wr.heap.size, 0, none⟩ 1 1 [.int .i64 y.key, .int .i64 y.val] (by rfl) (by rfl) (World.news_of_block (cs := #[.int .i64 y.key, .int .i64 y.val]) (t := 92) (fr := (0, 0)) (heap_alloc_new wr _)) (by simp [Value.oneCell']) (by omega) (by unfold maxLen; omega) (by omega) (by simp; omega) (wr.heap.size + 1) (by simp) ?_; intro gg cap' w3 hown1 hgrow hat hlt)
        go_roundg (l.length - j)
        case measure => omega
        case rel =>
          have hF : Frm (fun k => bx + 1 ≤ k) wr w3 := ((Frm.refl _ wr).alloc _).trans (Frm.of_grown (S := fun k => bx + 1 ≤ k) hgrow (fun k hk => hvb k hk)) (fun k hk => .inl hk)
          refine ⟨j + 1, by go_num, by omega, by omega, ⟨?_⟩, ⟨HW.out.trans hF (fun k hk => .inr (by omega))⟩, ⟨hF.blk HX.out (by omega)⟩, ⟨HH.out.frm hF (fun k hk => ?_)⟩, ⟨hF.blk HB.out (by omega)⟩⟩
          · rw [take_erase_ne l hy he, ← HR.out, List.flatMap_append, List.length_append]
            simpa [encR] using hown1
          · rcases hk with rfl | hk
            · omega
            · have : b = k := by simpa [Value.ownBlock] using hk
              omega
    · have hjb : decide ((j : Int) < (l.length : Int)) = false := decide_eq_false (by omega)
      obtain rfl : j = l.length := by omega
      have x0 : wr.cell? ⟨bx, 0, none⟩ = some (.int .i64 x.key) := blk_cell HX.out 0
      have x1 : wr.cell? ⟨bx, 1, none⟩ = some (.int .i64 x.val) := blk_cell HX.out 1
      have f0 : wr.frozen? ⟨g, 0, none⟩ = false := blk_frozen HH.out.1 0
      have hgbx : g ≠ bx := by omega
      have hvb := own_base HV.out
      have hws := HW.out.size
      go_wp2_with fail
      have hRl : R = l.eraseIdx m := by rw [HR.out, List.take_length]
      have hF : Frm (fun k => k = g) wr (wr.setCell ⟨g, 0, none⟩ (.slice A7 R.length c7)) := (Frm.refl (fun k => k = g) wr).setCell (p := ⟨g, 0, none⟩) (.inl rfl) _
      have hHx : HpR (wr.setCell ⟨g, 0, none⟩ (.slice A7 R.length c7)) g (.slice A7 R.length c7) R := by
        refine ⟨by simpa using blk_set HH.out.1 0 (.slice A7 R.length c7), hF.row ⟨HV.out.1, HV.out.2.imp id ?_⟩ (fun k hk => ?_)⟩
        · rintro ⟨b', cap', cur', h1, h2, h3⟩
          exact ⟨b', cap', cur', h1, Nat.zero_le _, h3⟩
        · have := hvb k hk
          omega
      have y0 : (wr.setCell ⟨g, 0, none⟩ (.slice A7 R.length c7)).cell? ⟨bx, 0, none⟩ = some (.int .i64 x.key) := blk_cell (hF.blk HX.out (Ne.symm hgbx)) 0
      have y1 : (wr.setCell ⟨g, 0, none⟩ (.slice A7 R.length c7)).cell? ⟨bx, 1, none⟩ = some (.int .i64 x.val) := blk_cell (hF.blk HX.out (Ne.symm hgbx)) 1
      have HHx := Aside0.mk hHx
      have HFx := Aside0.mk ((HW.out.mono (S1 := fun k => k = g) (fun _ h => h.elim)).trans hF (fun k hk => .inl hk))
      generalize wr.setCell ⟨g, 0, none⟩ (.slice A7 R.length c7) = w4 at y0 y1 HHx HFx ⊢
      clear x0 x1 f0 hHx hF
      trace_state
      go_quiet (fail)
      go_wp2
      go_ret3
      exact ⟨_, rfl, by rw [← hRl]; exact HHx.out.drewN _, fun k hk => by have := hvb k hk; omega, HFx.out.drewN _⟩
end Go.Proofs.Ytekcpcipbccodaa.Mem
