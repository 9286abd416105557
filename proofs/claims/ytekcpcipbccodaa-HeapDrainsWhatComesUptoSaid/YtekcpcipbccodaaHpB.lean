/- The heap of ints: sift and Pop. -/
import Derived.Test.YtekcpcipbccodaaHpA
namespace Go.Proofs.Ytekcpcipbccodaa.Mem
open Go.RowKit Go.Proofs.YtekcpcipbccodaaW.PrintWords Go.Proofs.YtekcpcipbccodaaW.PrintLast Go.Proofs.YtekcpcipbccodaaW.PrintMore
set_option linter.unusedVariables false
set_option linter.unusedSimpArgs false

/-- The inner loop: fuel, the least so far, the next place. -/
def lstGo (l : List Nd) (i : Nat) : Nat → Nat → Nat → Nat
  | 0, le, _ => le
  | k + 1, le, d => if d ≤ 2 * i + 2 ∧ d < l.length then lstGo l i k (if (l[d]!).lt (l[le]!) then d else le) (d + 1) else le
def lst (l : List Nd) (i : Nat) : Nat := lstGo l i 3 i (2 * i + 1)
def down : Nat → List Nd → Nat → List Nd
  | 0, l, _ => l
  | k + 1, l, i => if lst l i = i then l else down k (swp l i (lst l i)) (lst l i)
theorem down_stop {k i : Nat} {l : List Nd} (h : lst l i = i) : down k l i = l := by
  cases k with
  | zero => rfl
  | succ k => simp [down, h]
theorem down_go {k i j : Nat} {l : List Nd} (hk : 1 ≤ k) (h : lst l i = j) (hn : j ≠ i) : down k l i = down (k - 1) (swp l i j) j := by
  obtain ⟨k, rfl⟩ : ∃ q, k = q + 1 := ⟨k - 1, by omega⟩
  subst h
  simp [down, hn]
theorem lstGo_range (l : List Nd) (i : Nat) : ∀ (k le d : Nat), i < d → (le = i ∨ (i < le ∧ le < l.length)) → (lstGo l i k le d = i ∨ (i < lstGo l i k le d ∧ lstGo l i k le d < l.length))
  | 0, le, d, hd, h => h
  | k + 1, le, d, hd, h => by
    unfold lstGo
    split
    · rename_i hc
      refine lstGo_range l i k _ _ (by omega) ?_
      split
      · exact .inr ⟨hd, hc.2⟩
      · exact h
    · exact h
theorem lst_range (l : List Nd) (i : Nat) : lst l i = i ∨ (i < lst l i ∧ lst l i < l.length) := lstGo_range l i 3 i _ (by omega) (.inl rfl)

theorem row_open {w : World} {b cap n : Nat} {l : List Nd} (h : w.ownsRow 0 89 3 (.slice (some ⟨b, 0, none⟩) n cap) l.length (l.flatMap encN)) (hn : l.length = n) : ∃ cur, w.heap[b]? = some (.cells cur 89 (0, 0)) ∧ cur.toList.take (l.length * 3) = l.flatMap encN := by
  rcases h.2 with ⟨h, _⟩ | ⟨b', cap', cur, h, _, hb, _, _, _, ht⟩
  · cases h
  · simp only [Value.slice.injEq, Option.some.injEq, Addr.mk.injEq] at h
    obtain ⟨⟨rfl, _⟩, _⟩ := h
    exact ⟨cur, hb, ht⟩
set_option maxHeartbeats 8000000 in
set_option maxRecDepth 100000 in
theorem sift_calls (w : World) (g b cap : Nat) (l : List Nd) (t : Int) (h : HpI w g (.slice (some ⟨b, 0, none⟩) l.length cap) l t) (hl : l.length * 24 ≤ 140737488355328) :
    Calls Try.prog 55 #[.pointer (some ⟨g, 0, none⟩)] w fun e w' => e = .returned (.tuple #[]) ∧ HpI w' g (.slice (some ⟨b, 0, none⟩) l.length cap) (down (l.length + 1) l 0) t ∧ Frm (fun k => k = b) w w' := by
  have hI0 := Aside0.mk h
  clear h
  go_enter Try.func55, Try.ntmps55
  go_wp2_with fail
  go_loopg [2] (l.length + 1) (fun gk v2 wr => ∃ (i f : Nat) (lk : List Nd), v2 = .int .i64 i ∧ lk.length = l.length ∧ i ≤ l.length ∧ l.length + 1 ≤ i + f ∧ l.length + 1 ≤ i + gk ∧ Aside0 (HpI wr g (.slice (some ⟨b, 0, none⟩) l.length cap) lk t) ∧ Aside0 (Frm (fun k => k = b) w wr) ∧ Aside0 (down (l.length + 1) l 0 = down f lk i))
  case atStart => exact ⟨0, l.length + 1, l, by go_num, rfl, by omega, by omega, by omega, hI0, ⟨Frm.refl _ _⟩, ⟨rfl⟩⟩
  case round =>
    obtain ⟨i, f, lk, rfl, hlk, hil, hif, hig, HI, HF, HE⟩ := hrel
    clear hI0
    go_wp2_with fail
    go_loopg [3, 4] 3 (fun gj v3 v4 wx => ∃ (le d k : Nat), v3 = .int .i64 le ∧ v4 = .int .i64 d ∧ i < d ∧ d ≤ 2 * i + 3 ∧ 2 * i + 4 ≤ d + gj ∧ (le = i ∨ (i < le ∧ le < l.length)) ∧ 2 * i + 4 ≤ d + k ∧ Aside0 (HpI wx g (.slice (some ⟨b, 0, none⟩) l.length cap) lk t) ∧ Aside0 (Frm (fun k => k = b) w wx) ∧ Aside0 (lst lk i = lstGo lk i k le d))
    case atStart => exact ⟨i, 2 * i + 1, 3, by go_num, by go_num, by omega, by omega, by omega, .inl rfl, by omega, HI, HF, ⟨rfl⟩⟩
    case round =>
      obtain ⟨le, d, k, rfl, rfl, hid, hd2, hgj, hle, hdk, HX, HG, HL⟩ := hrel
      clear HI HF
      by_cases c1 : d ≤ 2 * i + 2
      · have c1b : decide ((d : Int) ≤ 2 * (i : Int) + 2) = true := decide_eq_true (by omega)
        have h0 : wr.cell? ⟨g, 0, none⟩ = some (.slice (some ⟨b, 0, none⟩) l.length cap) := blk_cell HX.out.1 0
        by_cases c2 : d < l.length
        · have c2b : decide ((d : Int) < (l.length : Int)) = true := decide_eq_true (by omega)
          obtain ⟨x, hx⟩ : ∃ x, lk[d]? = some x := ⟨_, List.getElem?_eq_getElem (by omega)⟩
          obtain ⟨y, hy⟩ : ∃ y, lk[le]? = some y := ⟨_, List.getElem?_eq_getElem (by omega)⟩
          have hxi : lk[d]! = x := by simp [hx]
          have hyi : lk[le]! = y := by simp [hy]
          obtain ⟨hg, hr⟩ := HX.out
          obtain ⟨cur, hb, ht⟩ := row_open hr hlk
          obtain ⟨x0, x1, x2⟩ := row_cells hb ht hx
          obtain ⟨y0, y1, y2⟩ := row_cells hb ht hy
          have b1 : (d : Int) < (l.length : Int) := by omega
          have b2 : (le : Int) < (l.length : Int) := by omega
          clear hb ht hr hg
          go_wp2_with fail
          go_region_held3 (fun w' => w'.cell? ⟨g, 0, none⟩ = some (.slice (some ⟨b, 0, none⟩) l.length cap) ∧
              w'.cell? ⟨b, d * 3, none⟩ = some (.int .i64 x.key) ∧ w'.cell? ⟨b, d * 3 + 1, none⟩ = some (.int .i64 x.turn) ∧ w'.cell? ⟨b, d * 3 + 2, none⟩ = some (.int .i64 x.val) ∧
              w'.cell? ⟨b, le * 3, none⟩ = some (.int .i64 y.key) ∧ w'.cell? ⟨b, le * 3 + 1, none⟩ = some (.int .i64 y.turn) ∧ w'.cell? ⟨b, le * 3 + 2, none⟩ = some (.int .i64 y.val))
            (first
              | (go_keep; done)
              | (go_split_ands; exact ⟨cell_below hb2 (by assumption), cell_below hb2 (by assumption), cell_below hb2 (by assumption), cell_below hb2 (by assumption), cell_below hb2 (by assumption), cell_below hb2 (by assumption), cell_below hb2 (by assumption)⟩))
            (first | (go_at_call 52; refine (before_calls x y _).mono ?_; rintro e w2 ⟨rfl, hb2⟩))
          have hF2 : Frm (fun _ => False) wr w2 := ((Frm.refl _ wr).drew).trans (Frm.of_below hb2 (fun _ => False)) (fun _ h => h.elim)
          have hI2 := HX.out.frm hF2 (fun _ _ h => h)
          have hG2 : Frm (fun k => k = b) w w2 := HG.out.trans hF2 (fun _ h => h.elim)
          clear hF2 hb2 x0 x1 x2 y0 y1 y2 h0
          obtain ⟨k, rfl⟩ : ∃ q, k = q + 1 := ⟨k - 1, by omega⟩
          have hstep : lstGo lk i (k + 1) le d = lstGo lk i k (if x.lt y then d else le) (d + 1) := by
            rw [lstGo, if_pos ⟨c1, by omega⟩, hxi, hyi]
          by_cases hc : x.lt y = true
          · rw [hc]
            go_wp2_with fail
            go_roundg (gk - 1)
            case measure => omega
            case rel => exact ⟨d, d + 1, k, by go_num, by go_num, by omega, by omega, by omega, by omega, by omega, ⟨hI2⟩, ⟨hG2⟩, ⟨by rw [HL.out, hstep, if_pos hc]⟩⟩
          · have hc' : x.lt y = false := by simpa using hc
            rw [hc']
            go_wp2_with fail
            go_roundg (gk - 1)
            case measure => omega
            case rel => exact ⟨le, d + 1, k, by go_num, by go_num, by omega, by omega, by omega, by omega, by omega, ⟨hI2⟩, ⟨hG2⟩, ⟨by rw [HL.out, hstep, if_neg hc]⟩⟩
        · have c2b : decide ((d : Int) < (l.length : Int)) = false := decide_eq_false (by omega)
          have hL : lst lk i = le := by
            rw [HL.out]
            cases k with
            | zero => rfl
            | succ k =>
              unfold lstGo
              rw [if_neg (by omega)]
          by_cases he : le = i
          · subst he
            go_wp2_with fail
            refine bodyPost_ret (results_none rfl _ _ _) rfl ?_
            exact ⟨rfl, by rw [HE.out, down_stop hL]; exact HX.out, HG.out⟩
          · have hne : ((le : Int) == (i : Int)) = false := beq_eq_false_iff_ne.2 (by omega)
            obtain ⟨x, hx⟩ : ∃ x, lk[i]? = some x := ⟨_, List.getElem?_eq_getElem (by omega)⟩
            obtain ⟨y, hy⟩ : ∃ y, lk[le]? = some y := ⟨_, List.getElem?_eq_getElem (by omega)⟩
            have hxi : lk[i]! = x := by simp [hx]
            have hyi : lk[le]! = y := by simp [hy]
            obtain ⟨hg, hr⟩ := HX.out
            obtain ⟨cur, hb, ht⟩ := row_open hr hlk
            have h0 : wr.cell? ⟨g, 0, none⟩ = some (.slice (some ⟨b, 0, none⟩) l.length cap) := blk_cell hg 0
            obtain ⟨x0, x1, x2⟩ := row_cells hb ht hx
            obtain ⟨y0, y1, y2⟩ := row_cells hb ht hy
            have fx0 : wr.frozen? ⟨b, i * 3, none⟩ = false := blk_frozen hb _
            have fx1 : wr.frozen? ⟨b, i * 3 + 1, none⟩ = false := blk_frozen hb _
            have fx2 : wr.frozen? ⟨b, i * 3 + 2, none⟩ = false := blk_frozen hb _
            have fy0 : wr.frozen? ⟨b, le * 3, none⟩ = false := blk_frozen hb _
            have fy1 : wr.frozen? ⟨b, le * 3 + 1, none⟩ = false := blk_frozen hb _
            have fy2 : wr.frozen? ⟨b, le * 3 + 2, none⟩ = false := blk_frozen hb _
            have b1 : (i : Int) < (l.length : Int) := by omega
            have b2 : (le : Int) < (l.length : Int) := by omega
            clear hb ht hr hg
            go_wp2_with fail
            go_region
            go_wp2
            go_roundg (l.length + 1 - le)
            case measure => omega
            case rel =>
              have hs1 := setN_HpI (l := lk) (b := b) (cap := cap) (by rw [hlk]; exact HX.out) (show i < lk.length by omega) y
              have hs2 := setN_HpI (l := lk.set i y) (b := b) (cap := cap) hs1 (show le < (lk.set i y).length by simp; omega) x
              have hsw : swp lk i le = (lk.set i y).set le x := by unfold swp; rw [hxi, hyi]
              rw [← hsw] at hs2
              have hF3 : Frm (fun k => k = b) w (setN (setN wr b (i * 3) y) b (le * 3) x) := (HG.out.trans (setN_frm _ _ _ _) (fun k hk => .inl hk)).trans (setN_frm _ _ _ _) (fun k hk => .inl hk)
              refine ⟨le, f - 1, swp lk i le, by go_num, by simp [swp, hlk], by omega, by omega, by omega, ⟨?_⟩, ⟨hF3.drew⟩, ⟨HE.out.trans (down_go (by omega) hL he)⟩⟩
              have hl3 : (swp lk i le).length = l.length := by simp [swp, hlk]
              rw [hl3] at hs2
              have hs3 := hs2.drew
              unfold setN at hs3
              with_reducible exact hs3
      · have c1b : decide ((d : Int) ≤ 2 * (i : Int) + 2) = false := decide_eq_false (by omega)
        have hL : lst lk i = le := by
          rw [HL.out]
          cases k with
          | zero => rfl
          | succ k =>
            unfold lstGo
            rw [if_neg (by omega)]
        by_cases he : le = i
        · subst he
          go_wp2_with fail
          refine bodyPost_ret (results_none rfl _ _ _) rfl ?_
          exact ⟨rfl, by rw [HE.out, down_stop hL]; exact HX.out, HG.out⟩
        · have hne : ((le : Int) == (i : Int)) = false := beq_eq_false_iff_ne.2 (by omega)
          obtain ⟨x, hx⟩ : ∃ x, lk[i]? = some x := ⟨_, List.getElem?_eq_getElem (by omega)⟩
          obtain ⟨y, hy⟩ : ∃ y, lk[le]? = some y := ⟨_, List.getElem?_eq_getElem (by omega)⟩
          have hxi : lk[i]! = x := by simp [hx]
          have hyi : lk[le]! = y := by simp [hy]
          obtain ⟨hg, hr⟩ := HX.out
          obtain ⟨cur, hb, ht⟩ := row_open hr hlk
          have h0 : wr.cell? ⟨g, 0, none⟩ = some (.slice (some ⟨b, 0, none⟩) l.length cap) := blk_cell hg 0
          obtain ⟨x0, x1, x2⟩ := row_cells hb ht hx
          obtain ⟨y0, y1, y2⟩ := row_cells hb ht hy
          have fx0 : wr.frozen? ⟨b, i * 3, none⟩ = false := blk_frozen hb _
          have fx1 : wr.frozen? ⟨b, i * 3 + 1, none⟩ = false := blk_frozen hb _
          have fx2 : wr.frozen? ⟨b, i * 3 + 2, none⟩ = false := blk_frozen hb _
          have fy0 : wr.frozen? ⟨b, le * 3, none⟩ = false := blk_frozen hb _
          have fy1 : wr.frozen? ⟨b, le * 3 + 1, none⟩ = false := blk_frozen hb _
          have fy2 : wr.frozen? ⟨b, le * 3 + 2, none⟩ = false := blk_frozen hb _
          have b1 : (i : Int) < (l.length : Int) := by omega
          have b2 : (le : Int) < (l.length : Int) := by omega
          clear hb ht hr hg
          go_wp2_with fail
          go_region
          go_wp2
          go_roundg (l.length + 1 - le)
          case measure => omega
          case rel =>
            have hs1 := setN_HpI (l := lk) (b := b) (cap := cap) (by rw [hlk]; exact HX.out) (show i < lk.length by omega) y
            have hs2 := setN_HpI (l := lk.set i y) (b := b) (cap := cap) hs1 (show le < (lk.set i y).length by simp; omega) x
            have hsw : swp lk i le = (lk.set i y).set le x := by unfold swp; rw [hxi, hyi]
            rw [← hsw] at hs2
            have hF3 : Frm (fun k => k = b) w (setN (setN wr b (i * 3) y) b (le * 3) x) := (HG.out.trans (setN_frm _ _ _ _) (fun k hk => .inl hk)).trans (setN_frm _ _ _ _) (fun k hk => .inl hk)
            refine ⟨le, f - 1, swp lk i le, by go_num, by simp [swp, hlk], by omega, by omega, by omega, ⟨?_⟩, ⟨hF3.drew⟩, ⟨HE.out.trans (down_go (by omega) hL he)⟩⟩
            have hl3 : (swp lk i le).length = l.length := by simp [swp, hlk]
            rw [hl3] at hs2
            have hs3 := hs2.drew
            unfold setN at hs3
            with_reducible exact hs3
end Go.Proofs.Ytekcpcipbccodaa.Mem
