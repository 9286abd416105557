/- The heap of ints: before, Peek, Len, New, Push: walked by hand. -/
import Derived.Test.YtekcpcipbccodaaMem
import Derived.Test.YtekcpcipbccodaaProg
import Derived.KernelRfl
import Derived.OwnWalk
import Derived.Deep.Cut
import Derived.Deep.RegionLaw
import Derived.StillTailTactics
namespace Go.Proofs.Ytekcpcipbccodaa.Mem
open Go.RowKit Go.Proofs.YtekcpcipbccodaaW.PrintWords Go.Proofs.YtekcpcipbccodaaW.PrintLast Go.Proofs.YtekcpcipbccodaaW.PrintMore
set_option linter.unusedVariables false
set_option linter.unusedSimpArgs false

structure Nd where
  key : Int
  turn : Int
  val : Int
  deriving DecidableEq, Inhabited
def encN (x : Nd) : List Value := [.int .i64 x.key, .int .i64 x.turn, .int .i64 x.val]
def Nd.lt (x y : Nd) : Bool := decide (x.key < y.key) || (x.key == y.key && decide (x.turn < y.turn))

set_option maxHeartbeats 2000000 in
theorem before_calls (x y : Nd) (w : World) : Calls Try.prog 52 #[.agg #[.int .i64 x.key, .int .i64 x.turn, .int .i64 x.val], .agg #[.int .i64 y.key, .int .i64 y.turn, .int .i64 y.val]] w fun e w' =>
    e = .returned (.bool (x.lt y)) ∧ Below w.heap.size w w' := by
  obtain ⟨xk, xt, xv⟩ := x
  obtain ⟨yk, yt, yv⟩ := y
  simp only [Nd.lt]
  by_cases c1 : xk < yk
  · have c1b : decide (xk < yk) = true := decide_eq_true c1
    go_enter Try.func52, Try.ntmps52
    go_wp2
    go_ret
    exact ⟨by simp [c1], below_alloc (below_alloc (Below.refl _ _) _) _⟩
  · have c1b : decide (xk < yk) = false := decide_eq_false c1
    by_cases c2 : xk = yk
    · have c2b : (xk == yk) = true := beq_iff_eq.2 c2
      go_enter Try.func52, Try.ntmps52
      go_wp2
      go_ret
      exact ⟨by simp [c1b, c2b], below_alloc (below_alloc (Below.refl _ _) _) _⟩
    · have c2b : (xk == yk) = false := beq_eq_false_iff_ne.2 c2
      go_enter Try.func52, Try.ntmps52
      go_wp2
      go_ret
      exact ⟨by simp [c1b, c2b], below_alloc (below_alloc (Below.refl _ _) _) _⟩

def HpI (w : World) (g : Nat) (v : Value) (l : List Nd) (t : Int) : Prop := w.heap[g]? = some (.cells #[v, .int .i64 t] 71 (0, 0)) ∧ w.ownsRow 0 89 3 v l.length (l.flatMap encN)

theorem encN_len (x : Nd) : (encN x).length = 3 := rfl
theorem row_cells {w : World} {b : Nat} {cur : Array Value} {l : List Nd} (hb : w.heap[b]? = some (.cells cur 89 (0, 0))) (ht : cur.toList.take (l.length * 3) = l.flatMap encN) {i : Nat} {x : Nd} (hx : l[i]? = some x) :
    w.cell? ⟨b, i * 3, none⟩ = some (.int .i64 x.key) ∧ w.cell? ⟨b, i * 3 + 1, none⟩ = some (.int .i64 x.turn) ∧ w.cell? ⟨b, i * 3 + 2, none⟩ = some (.int .i64 x.val) := by
  have hi : i < l.length := (List.getElem?_eq_some_iff.1 hx).1
  have key : ∀ j, j < 3 → w.cell? ⟨b, i * 3 + j, none⟩ = (encN x)[j]? := by
    intro j hj
    rw [blk_cell hb, ← flat_get encN_len l i j x hx hj, ← ht, List.getElem?_take_of_lt (by omega), Array.getElem?_toList]
  exact ⟨key 0 (by omega), key 1 (by omega), key 2 (by omega)⟩

theorem peek_none (w : World) : Calls Try.prog 45 #[.pointer none] w fun e w' => e = .returned (.tuple #[.int .i64 0, .int .i64 0, .bool false]) ∧ Drawn0 w w' := by
  go_enter Try.func45, Try.ntmps45
  go_wp2
  go_ret3
  exact ⟨rfl, Drawn0.refl _⟩

theorem peek_empty (w : World) (g : Nat) (v : Value) (t : Int) (h : HpI w g v [] t) : Calls Try.prog 45 #[.pointer (some ⟨g, 0, none⟩)] w fun e w' => e = .returned (.tuple #[.int .i64 0, .int .i64 0, .bool false]) ∧ Drawn0 w w' := by
  obtain ⟨hg, hl, hv⟩ := h
  obtain ⟨A, c, rfl⟩ : ∃ A c, v = .slice A 0 c := by
    rcases hv with ⟨rfl, _⟩ | ⟨b, cap, cur, rfl, _⟩
    · exact ⟨_, _, rfl⟩
    · exact ⟨_, _, rfl⟩
  have h0 : w.cell? ⟨g, 0, none⟩ = some (.slice A 0 c) := blk_cell hg 0
  go_enter Try.func45, Try.ntmps45
  go_wp2
  go_ret3
  exact ⟨rfl, Drawn0.refl _⟩

theorem peek_some (w : World) (g : Nat) (v : Value) (x : Nd) (l : List Nd) (t : Int) (h : HpI w g v (x :: l) t) : Calls Try.prog 45 #[.pointer (some ⟨g, 0, none⟩)] w fun e w' => e = .returned (.tuple #[.int .i64 x.key, .int .i64 x.val, .bool true]) ∧ Drawn0 w w' := by
  obtain ⟨hg, hl, hv⟩ := h
  rcases hv with ⟨_, h0⟩ | ⟨b, cap, cur, rfl, _, hb, hc, hm, hcs, ht⟩
  · simp at h0
  have h0 : w.cell? ⟨g, 0, none⟩ = some (.slice (some ⟨b, 0, none⟩) (l.length + 1) cap) := blk_cell hg 0
  obtain ⟨c0, c1, c2⟩ := row_cells hb ht (i := 0) (x := x) rfl
  simp only [Nat.zero_mul, Nat.zero_add] at c0 c1 c2
  have n0 : ((l.length : Int) + 1 == 0) = false := beq_eq_false_iff_ne.2 (by omega)
  have n1 : (0 : Int) < (l.length : Int) + 1 := by omega
  clear hb ht hg hl hcs hc hm
  go_enter Try.func45, Try.ntmps45
  go_wp2
  go_quiet (fail)
  go_wp2
  go_ret3
  exact ⟨rfl, ⟨_, rfl⟩⟩

theorem len_calls (w : World) (g : Nat) (v : Value) (l : List Nd) (t : Int) (h : HpI w g v l t) : Calls Try.prog 18 #[.pointer (some ⟨g, 0, none⟩)] w fun e w' => e = .returned (.int .i64 l.length) ∧ Drawn0 w w' := by
  obtain ⟨hg, hl, hv⟩ := h
  obtain ⟨A, c, rfl⟩ : ∃ A c, v = .slice A l.length c := by
    rcases hv with ⟨rfl, h0⟩ | ⟨b, cap, cur, rfl, _⟩
    · exact ⟨_, _, by rw [h0]⟩
    · exact ⟨_, _, rfl⟩
  have h0 : w.cell? ⟨g, 0, none⟩ = some (.slice A l.length c) := blk_cell hg 0
  go_enter Try.func18, Try.ntmps18
  go_wp2
  go_ret
  exact ⟨rfl, Drawn0.refl _⟩

theorem new_calls (w : World) : Calls Try.prog 15 #[] w fun e w' => ∃ g, e = .returned (.pointer (some ⟨g, 0, none⟩)) ∧ w.heap.size ≤ g ∧ HpI w' g (.slice none 0 0) [] 0 ∧ Below w.heap.size w w' := by
  go_enter Try.func15, Try.ntmps15
  go_wp2
  go_ret
  exact ⟨_, rfl, Nat.le_refl _, ⟨heap_alloc_new _ _, by simp, .inl ⟨rfl, rfl⟩⟩, below_alloc (Below.refl _ _) _⟩
theorem set3 {α : Type} (a b c : α) : ∀ (o : Nat) (L : List α), o + 3 ≤ L.length → ((L.set o a).set (o + 1) b).set (o + 2) c = L.take o ++ [a, b, c] ++ L.drop (o + 3)
  | 0, [], h | 0, [_], h | 0, [_, _], h => by simp at h
  | 0, x :: y :: z :: L, _ => by simp
  | o + 1, [], h => by simp at h
  | o + 1, x :: L, h => by
    have := set3 a b c o L (by simpa using h)
    simp only [List.set_cons_succ, List.take_succ_cons, List.drop_succ_cons, List.cons_append, this]
def setN (w : World) (b o : Nat) (y : Nd) : World := ((w.setCell ⟨b, o, none⟩ (.int .i64 y.key)).setCell ⟨b, o + 1, none⟩ (.int .i64 y.turn)).setCell ⟨b, o + 2, none⟩ (.int .i64 y.val)
theorem setN_frm (w : World) (b o : Nat) (y : Nd) : Frm (fun k => k = b) w (setN w b o y) := by
  have h1 := (Frm.refl (fun k => k = b) w).setCell (p := ⟨b, o, none⟩) (.inl rfl) (.int .i64 y.key)
  have h2 := h1.setCell (p := ⟨b, o + 1, none⟩) (.inl rfl) (.int .i64 y.turn)
  exact h2.setCell (p := ⟨b, o + 2, none⟩) (.inl rfl) (.int .i64 y.val)
theorem setN_row {w : World} {b cap : Nat} {l : List Nd} (h : w.ownsRow 0 89 3 (.slice (some ⟨b, 0, none⟩) l.length cap) l.length (l.flatMap encN)) {i : Nat} (hi : i < l.length) (y : Nd) :
    (setN w b (i * 3) y).ownsRow 0 89 3 (.slice (some ⟨b, 0, none⟩) (l.set i y).length cap) (l.set i y).length ((l.set i y).flatMap encN) := by
  rcases h.2 with ⟨h0, _⟩ | ⟨b', cap', cur, hv, _, hb, hc, hm, hcs, ht⟩
  · cases h0
  · simp only [Value.slice.injEq, Option.some.injEq, Addr.mk.injEq] at hv
    obtain ⟨⟨rfl, _⟩, _, rfl⟩ := hv
    have h1 := blk_set (blk_set (blk_set hb (i * 3) (.int .i64 y.key)) (i * 3 + 1) (.int .i64 y.turn)) (i * 3 + 2) (.int .i64 y.val)
    refine ⟨by rw [flat_length encN_len], .inr ⟨_, _, _, rfl, Nat.zero_le _, h1, by simpa using hc, hm, by simpa using hcs, ?_⟩⟩
    rw [List.length_set, Array.toList_setIfInBounds, Array.toList_setIfInBounds, Array.toList_setIfInBounds, List.take_set, List.take_set, List.take_set, ht, flat_set encN_len l i y hi]
    exact set3 _ _ _ _ _ (by rw [flat_length encN_len]; omega)
theorem setN_HpI {w : World} {g b cap : Nat} {l : List Nd} {t : Int} (h : HpI w g (.slice (some ⟨b, 0, none⟩) l.length cap) l t) {i : Nat} (hi : i < l.length) (y : Nd) :
    HpI (setN w b (i * 3) y) g (.slice (some ⟨b, 0, none⟩) (l.set i y).length cap) (l.set i y) t := by
  obtain ⟨hg, hr⟩ := h
  have hgb : g ≠ b := by
    rcases hr.2 with ⟨h0, _⟩ | ⟨b', cap', cur, hv, _, hb, _⟩
    · cases h0
    · simp only [Value.slice.injEq, Option.some.injEq, Addr.mk.injEq] at hv
      obtain ⟨⟨rfl, _⟩, _⟩ := hv
      exact blk_ne hg hb (by decide)
  refine ⟨?_, setN_row hr hi y⟩
  rw [List.length_set]
  exact (setN_frm w b (i * 3) y).blk hg hgb
theorem HpI.frm {w w1 : World} {S : Nat → Prop} {g : Nat} {v : Value} {l : List Nd} {t : Int} (h : HpI w g v l t) (hF : Frm S w w1) (hn : ∀ k, foot g v k → ¬ S k) : HpI w1 g v l t :=
  ⟨hF.blk h.1 (hn g (.inl rfl)), hF.row h.2 (fun k hk => hn k (.inr hk))⟩
theorem HpI.drew {w : World} {g : Nat} {v : Value} {l : List Nd} {t : Int} (h : HpI w g v l t) : HpI w.drew g v l t := ⟨h.1, h.2⟩

def swp (l : List Nd) (i j : Nat) : List Nd := (l.set i l[j]!).set j l[i]!
def up : Nat → List Nd → Nat → List Nd
  | 0, l, _ => l
  | k + 1, l, i => if i = 0 then l else if (l[i]!).lt (l[(i - 1) / 2]!) then up k (swp l i ((i - 1) / 2)) ((i - 1) / 2) else l
theorem up_go {k i : Nat} {l : List Nd} (h0 : i ≠ 0) (hk : 1 ≤ k) (h : (l[i]!).lt (l[(i - 1) / 2]!) = true) : up k l i = up (k - 1) (swp l i ((i - 1) / 2)) ((i - 1) / 2) := by
  obtain ⟨k, rfl⟩ : ∃ q, k = q + 1 := ⟨k - 1, by omega⟩
  show (if i = 0 then l else if (l[i]!).lt (l[(i - 1) / 2]!) then up k (swp l i ((i - 1) / 2)) ((i - 1) / 2) else l) = _
  rw [if_neg h0, if_pos h]
  rfl
theorem up_stop {k i : Nat} {l : List Nd} (h : i = 0 ∨ (l[i]!).lt (l[(i - 1) / 2]!) = false) : up k l i = l := by
  cases k with
  | zero => rfl
  | succ k =>
    show (if i = 0 then l else if (l[i]!).lt (l[(i - 1) / 2]!) then up k (swp l i ((i - 1) / 2)) ((i - 1) / 2) else l) = _
    rcases h with h | h
    · rw [if_pos h]
    · split
      · rfl
      · rw [if_neg (by rw [h]; decide)]
theorem frz_alloc {w : World} {a : Addr} {o : Obj} (h : w.frozen? a = false) (hc : a.block < w.heap.size) : (w.alloc o).drew.frozen? a = false := by
  show (w.alloc o).frozen? a = false
  rw [World.frozen?_alloc_old w o a (Nat.ne_of_lt hc)]
  exact h
theorem Try.infoN89 : (Try.prog.info? 89).map (fun i => (i.zero, i.size, i.bytes)) = some (some (.agg #[.int .i64 0, .int .i64 0, .int .i64 0]), 3, 24) := by kernel_rfl
theorem cell_below {w w1 : World} {a : Addr} {v : Value} (h : Below w.heap.size w w1) (hc : w.cell? a = some v) : w1.cell? a = some v := (World.cell?_of_block (h.block _ (World.block_lt_of_cell? w a hc))).trans hc

theorem push_made {w w1 : World} {g gg cap : Nat} {v : Value} {l : List Nd} {t key val : Int} (hg : w.heap[g]? = some (.cells #[v, .int .i64 t] 71 (0, 0))) (hv : w.ownsRow 0 89 3 v l.length (l.flatMap encN)) (lg : g < w.heap.size) (ag : some g ≠ v.ownBlock)
    (hown1 : w1.ownsRow 0 89 3 (.slice (some ⟨gg, 0, none⟩) (l.length + 1) cap) (l.length + 1) (l.flatMap encN ++ [.int .i64 key, .int .i64 t, .int .i64 val]))
    (hgrow : ((w.alloc (.cells #[.int .i64 key, .int .i64 t, .int .i64 val] 89)).drew).grownBy w1 v.ownBlock) (hat : v.ownBlock = some gg ∨ gg = w.heap.size + 1) :
    ∃ v1, HpI (w1.setCell ⟨g, 0, none⟩ (.slice (some ⟨gg, 0, none⟩) (l.length + 1) cap)) g v1 (l ++ [⟨key, t, val⟩]) t ∧ (v1.ownBlock = v.ownBlock ∨ ∃ b, v1.ownBlock = some b ∧ w.heap.size ≤ b) ∧ Frm (foot g v) w (w1.setCell ⟨g, 0, none⟩ (.slice (some ⟨gg, 0, none⟩) (l.length + 1) cap)) := by
  have hb1 : w1.heap[g]? = some (.cells #[v, .int .i64 t] 71 (0, 0)) := (hgrow.block g (by simp; omega) ag).trans (blk_alloc hg _)
  have hF1 : Frm (foot g v) w w1 := ((Frm.refl _ w).alloc _).drew.trans (Frm.of_grown (S := foot g v) hgrow (fun k hk => .inr hk)) (fun k hk => .inl hk)
  have hne : g ≠ gg := by
    rcases hat with h | h
    · intro e; exact ag (by rw [h, e])
    · omega
  refine ⟨_, ⟨by simpa using blk_set hb1 0 (.slice (some ⟨gg, 0, none⟩) (l.length + 1) cap), ?_⟩, ?_, hF1.setCell (.inl (.inl rfl)) _⟩
  · have := ((Frm.refl (fun k => k = g) w1).setCell (p := ⟨g, 0, none⟩) (.inl rfl) (.slice (some ⟨gg, 0, none⟩) (l.length + 1) cap)).row hown1 (by rintro k e rfl; exact hne (Option.some.inj e).symm)
    simpa [encN] using this
  · rcases hat with h | h
    · exact .inl h.symm
    · exact .inr ⟨gg, rfl, by omega⟩

set_option maxHeartbeats 4000000 in
set_option maxRecDepth 100000 in
theorem push_calls (w : World) (g : Nat) (v : Value) (l : List Nd) (t key val : Int) (h : HpI w g v l t) (ht0 : 0 ≤ t) (ht1 : t < 4611686018427387904) (hl : (l.length + 1) * 24 ≤ 140737488355328) :
    Calls Try.prog 29 #[.pointer (some ⟨g, 0, none⟩), .int .i64 key, .int .i64 val] w fun e w' => ∃ v', e = .returned (.tuple #[]) ∧ HpI w' g v' (up (l.length + 1) (l ++ [⟨key, t, val⟩]) l.length) (t + 1) ∧
      (v'.ownBlock = v.ownBlock ∨ ∃ b, v'.ownBlock = some b ∧ w.heap.size ≤ b) ∧ Frm (foot g v) w w' := by
  obtain ⟨hg, hv⟩ := h
  obtain ⟨i0, hi0, hz0, hz1, hz2⟩ := info_parts Try.infoN89
  have lg := blk_lt hg
  have h0 : w.cell? ⟨g, 0, none⟩ = some v := blk_cell hg 0
  have h1 : w.cell? ⟨g, 1, none⟩ = some (.int .i64 t) := blk_cell hg 1
  have f0 : w.frozen? ⟨g, 0, none⟩ = false := blk_frozen hg 0
  have f1 : w.frozen? ⟨g, 1, none⟩ = false := blk_frozen hg 1
  have ag : some g ≠ v.ownBlock := by
    rcases hv.2 with ⟨rfl, _⟩ | ⟨b, cap, cur, rfl, _, hb, _⟩
    · simp [Value.ownBlock]
    · simp only [Value.ownBlock, ne_eq, Option.some.injEq]
      exact blk_ne hg hb (by decide)
  have hnn := World.new_ne w ⟨g, 0, none⟩ h0
  have hnn1 := World.new_ne w ⟨g, 1, none⟩ h1
  go_enter Try.func29, Try.ntmps29
  go_upto_region 1 with fail
  go_cut [] from 10 to 25 (fun wx => ∃ v1, HpI wx g v1 (l ++ [⟨key, t, val⟩]) t ∧ (v1.ownBlock = v.ownBlock ∨ ∃ b, v1.ownBlock = some b ∧ w.heap.size ≤ b) ∧ Frm (foot g v) w wx)
  case first =>
    go_region_law
      ((refine step_append_lies _ (by rfl) _ _ _ (by rfl) 0 89 i0 _ 3 24 Try.underlying69 hi0 hz0 hz1 hz2 rfl (by omega) v l.length (l.flatMap encN) (by rfl) ((hv.alloc _).drew)
          ⟨w.heap.size, 0, none⟩ 1 1 [.int .i64 key, .int .i64 t, .int .i64 val] (by rfl) (by rfl) (World.news_of_block (cs := #[.int .i64 key, .int .i64 t, .int .i64 val]) (t := 89) (fr := (0, 0)) (heap_alloc_new w _)) (by simp [Value.oneCell'])
          (by omega) (by simp [maxLen]; omega) hl (by simp) (w.heap.size + 1) (by simp) ?_; intro gg cap w1 hown1 hgrow hat hlt; have q1 : w1.cell? ⟨g, 0, none⟩ = some v := (hgrow.cell_far ⟨g, 0, none⟩ (by simp; omega) ag).trans (by go_keep); have q2 : w1.frozen? ⟨g, 0, none⟩ = false := (hgrow.frozen_far ⟨g, 0, none⟩ (by simp; omega) ag).trans (frz_alloc f0 lg)))
    all_goals (go_wp2_with fail; go_meet)
    all_goals exact push_made hg hv lg ag hown1 hgrow hat
  case rest =>
    obtain ⟨v1, hI, hat, hF⟩ := hcut
    clear hg hv hi0 hz0 hz1 hz2 h0 h1 f0 f1 ag hnn hnn1 i0
    obtain ⟨hg, hr⟩ := hI
    obtain ⟨b, cap, cur, rfl, hcb⟩ : ∃ b cap cur, v1 = .slice (some ⟨b, 0, none⟩) (l.length + 1) cap ∧ wc.heap[b]? = some (.cells cur 89 (0, 0)) := by
      rcases hr.2 with ⟨_, h0⟩ | ⟨b, cap, cur, rfl, _, hb, _⟩
      · simp at h0
      · exact ⟨b, cap, cur, by simp, hb⟩
    have c0 : wc.cell? ⟨g, 0, none⟩ = some (.slice (some ⟨b, 0, none⟩) (l.length + 1) cap) := blk_cell hg 0
    have c1 : wc.cell? ⟨g, 1, none⟩ = some (.int .i64 t) := blk_cell hg 1
    have f1 : wc.frozen? ⟨g, 1, none⟩ = false := blk_frozen hg 1
    have hgb : g ≠ b := blk_ne hg hcb (by decide)
    go_wp2_with fail
    have hI3 : HpI (wc.setCell ⟨g, 1, none⟩ (.int .i64 (t + 1))) g (.slice (some ⟨b, 0, none⟩) (l.length + 1) cap) (l ++ [⟨key, t, val⟩]) (t + 1) :=
      ⟨by simpa using blk_set hg 1 (.int .i64 (t + 1)), ((Frm.refl (fun k => k = g) wc).setCell (p := ⟨g, 1, none⟩) (.inl rfl) _).row hr (by rintro k e rfl; exact hgb (Option.some.inj e).symm)⟩
    have hF3 : Frm (foot g v) w (wc.setCell ⟨g, 1, none⟩ (.int .i64 (t + 1))) := hF.setCell (.inl (.inl rfl)) _
    generalize wc.setCell ⟨g, 1, none⟩ (.int .i64 (t + 1)) = w3 at hI3 hF3 ⊢
    have hI4 := Aside0.mk hI3
    have hlen : (l ++ [(⟨key, t, val⟩ : Nd)]).length = l.length + 1 := by simp
    have hbb : foot g v b ∨ w.heap.size ≤ b := by
      rcases hat with h | ⟨b', h, hge⟩
      · exact .inl (.inr (by rw [← h]; rfl))
      · exact .inr (by have h2 : b = b' := Option.some.inj h; omega)
    clear hg hr hcb c0 c1 f1 hF hI3
    obtain ⟨l0, hl0⟩ : ∃ l0, l0 = l ++ [(⟨key, t, val⟩ : Nd)] := ⟨_, rfl⟩
    rw [← hl0] at hI4 hlen
    have HL0 := Aside0.mk hl0
    clear hl0
    go_loopg [6] (l.length + 1) (fun gk v6 wr => ∃ (i f : Nat) (lk : List Nd), v6 = .int .i64 i ∧ lk.length = l.length + 1 ∧ i ≤ l.length ∧ i ≤ f ∧ i + 1 ≤ gk ∧ Aside0 (HpI wr g (.slice (some ⟨b, 0, none⟩) (l.length + 1) cap) lk (t + 1)) ∧ Aside0 (Frm (foot g v) w wr) ∧ Aside0 (up (l.length + 1) l0 l.length = up f lk i))
    case atStart => exact ⟨l.length, l.length + 1, l0, by go_num, hlen, by omega, by omega, by omega, hI4, ⟨hF3⟩, ⟨rfl⟩⟩
    case round =>
      obtain ⟨i, f, lk, rfl, hlk, hil, hif, hig, HI, HF, HE⟩ := hrel
      clear hI4 hF3
      by_cases hi0 : i = 0
      · subst hi0
        go_wp2
        go_end0
        exact ⟨_, rfl, by rw [← HL0.out, HE.out, up_stop (.inl rfl)]; exact HI.out, hat, HF.out⟩
      · obtain ⟨x, hx⟩ : ∃ x, lk[i]? = some x := ⟨_, List.getElem?_eq_getElem (by omega)⟩
        obtain ⟨p, hp⟩ : ∃ p, p = (i - 1) / 2 := ⟨_, rfl⟩
        obtain ⟨y, hy⟩ : ∃ y, lk[p]? = some y := ⟨_, List.getElem?_eq_getElem (by omega)⟩
        have hpi : p < i := by omega
        obtain ⟨hg, hr⟩ := HI.out
        obtain ⟨cur, hb, ht⟩ : ∃ cur, wr.heap[b]? = some (.cells cur 89 (0, 0)) ∧ cur.toList.take (lk.length * 3) = lk.flatMap encN := by
          rcases hr.2 with ⟨h, _⟩ | ⟨b', cap', cur, h, _, hb, _, _, _, ht⟩
          · cases h
          · simp only [Value.slice.injEq, Option.some.injEq, Addr.mk.injEq] at h
            obtain ⟨⟨rfl, _⟩, _⟩ := h
            exact ⟨cur, hb, ht⟩
        have h0 : wr.cell? ⟨g, 0, none⟩ = some (.slice (some ⟨b, 0, none⟩) (l.length + 1) cap) := blk_cell hg 0
        obtain ⟨x0, x1, x2⟩ := row_cells hb ht hx
        obtain ⟨y0, y1, y2⟩ := row_cells hb ht hy
        subst hp
        have b1 : (i : Int) < (l.length : Int) + 1 := by omega
        have b2 : (((i - 1) / 2 : Nat) : Int) < (l.length : Int) + 1 := by omega
        have b3 : (0 : Int) < (i : Int) := by omega
        have b4 : (0 : Int) ≤ ((i : Int) - 1) / 2 := by omega
        have b5 : ((i : Int) - 1) / 2 < (l.length : Int) + 1 := by omega
        have b6 : (((i : Int) - 1) / 2).toNat = (i - 1) / 2 := by omega
        clear ht hr hg
        go_wp2_with fail
        have hxi : lk[i]! = x := by simp [hx]
        have hyi : lk[(i - 1) / 2]! = y := by simp [hy]
        go_region_held3 (fun w' => w'.cell? ⟨g, 0, none⟩ = some (.slice (some ⟨b, 0, none⟩) (l.length + 1) cap) ∧
            w'.cell? ⟨b, i * 3, none⟩ = some (.int .i64 x.key) ∧ w'.cell? ⟨b, i * 3 + 1, none⟩ = some (.int .i64 x.turn) ∧ w'.cell? ⟨b, i * 3 + 2, none⟩ = some (.int .i64 x.val) ∧
            w'.cell? ⟨b, (i - 1) / 2 * 3, none⟩ = some (.int .i64 y.key) ∧ w'.cell? ⟨b, (i - 1) / 2 * 3 + 1, none⟩ = some (.int .i64 y.turn) ∧ w'.cell? ⟨b, (i - 1) / 2 * 3 + 2, none⟩ = some (.int .i64 y.val))
          (first
            | (go_keep; done)
            | (go_split_ands; exact ⟨cell_below hb2 (by assumption), cell_below hb2 (by assumption), cell_below hb2 (by assumption), cell_below hb2 (by assumption), cell_below hb2 (by assumption), cell_below hb2 (by assumption), cell_below hb2 (by assumption)⟩))
          (first | (go_at_call 52; refine (before_calls x y _).mono ?_; rintro e w2 ⟨rfl, hb2⟩))
        have hF2 : Frm (fun _ => False) wr w2 := ((Frm.refl _ wr).drew).trans (Frm.of_below hb2 (fun _ => False)) (fun _ h => h.elim)
        have hI2 := HI.out.frm hF2 (fun _ _ h => h)
        have hF02 : Frm (foot g v) w w2 := HF.out.trans hF2 (fun _ h => h.elim)
        clear hF2 hb2 x0 x1 x2 y0 y1 y2 h0 hb
        by_cases hc : x.lt y = true
        · rw [hc]
          go_wp2_with fail
          go_split_ands
          obtain ⟨cur2, hb2⟩ : ∃ cur, w2.heap[b]? = some (.cells cur 89 (0, 0)) := by
            rcases hI2.2.2 with ⟨h, _⟩ | ⟨b', cap', cur, h, _, hb, _⟩
            · cases h
            · simp only [Value.slice.injEq, Option.some.injEq, Addr.mk.injEq] at h
              obtain ⟨⟨rfl, _⟩, _⟩ := h
              exact ⟨cur, hb⟩
          have fx0 : w2.frozen? ⟨b, i * 3, none⟩ = false := blk_frozen hb2 _
          have fx1 : w2.frozen? ⟨b, i * 3 + 1, none⟩ = false := blk_frozen hb2 _
          have fx2 : w2.frozen? ⟨b, i * 3 + 2, none⟩ = false := blk_frozen hb2 _
          have fy0 : w2.frozen? ⟨b, (i - 1) / 2 * 3, none⟩ = false := blk_frozen hb2 _
          have fy1 : w2.frozen? ⟨b, (i - 1) / 2 * 3 + 1, none⟩ = false := blk_frozen hb2 _
          have fy2 : w2.frozen? ⟨b, (i - 1) / 2 * 3 + 2, none⟩ = false := blk_frozen hb2 _
          clear hb2
          have HI2 := Aside0.mk hI2
          have HF2 := Aside0.mk hF02
          clear hI2 hF02
          go_region
          go_wp2
          go_roundg ((i - 1) / 2 + 1)
          case measure => omega
          case rel =>
            have hs1 := setN_HpI (l := lk) (b := b) (cap := cap) (by rw [hlk]; exact HI2.out) (show i < lk.length by omega) y
            have hs2 := setN_HpI (l := lk.set i y) (b := b) (cap := cap) hs1 (show (i - 1) / 2 < (lk.set i y).length by simp; omega) x
            have hsw : swp lk i ((i - 1) / 2) = (lk.set i y).set ((i - 1) / 2) x := by unfold swp; rw [hxi, hyi]
            rw [← hsw] at hs2
            have hF3 : Frm (foot g v) w (setN (setN w2 b (i * 3) y) b ((i - 1) / 2 * 3) x) := (HF2.out.trans (setN_frm _ _ _ _) (fun k hk => hk ▸ hbb)).trans (setN_frm _ _ _ _) (fun k hk => hk ▸ hbb)
            refine ⟨(i - 1) / 2, f - 1, swp lk i ((i - 1) / 2), by go_num, by simp [swp, hlk], by omega, by omega, Nat.le_refl _, ⟨?_⟩, ⟨hF3.drew⟩, ⟨HE.out.trans (up_go hi0 (by omega) (by rw [hxi, hyi]; exact hc))⟩⟩
            have hl3 : (swp lk i ((i - 1) / 2)).length = l.length + 1 := by simp [swp, hlk]
            rw [hl3] at hs2
            have hs3 := hs2.drew
            unfold setN at hs3
            with_reducible exact hs3
        · have hc' : x.lt y = false := by simpa using hc
          rw [hc']
          go_wp2
          go_end0
          exact ⟨_, rfl, by rw [← HL0.out, HE.out, up_stop (.inr (by rw [hxi, hyi]; exact hc'))]; exact hI2, hat, hF02⟩
end Go.Proofs.Ytekcpcipbccodaa.Mem
