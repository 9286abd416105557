/- The document's heap: New, Push, first, Peek, Len, Pop: walked by hand. -/
import Derived.Test.YtekcpcipbccodaaHpC
namespace Go.Proofs.Ytekcpcipbccodaa.Mem
open Go.RowKit Go.Proofs.YtekcpcipbccodaaW.PrintWords Go.Proofs.YtekcpcipbccodaaW.PrintLast Go.Proofs.YtekcpcipbccodaaW.PrintMore
set_option linter.unusedVariables false
set_option linter.unusedSimpArgs false

structure It where
  key : Int
  val : Int
  deriving DecidableEq, Inhabited
def encR (x : It) : List Value := [.int .i64 x.key, .int .i64 x.val]
theorem encR_len (x : It) : (encR x).length = 2 := rfl
def HpR (w : World) (g : Nat) (v : Value) (l : List It) : Prop := w.heap[g]? = some (.cells #[v] 74 (0, 0)) ∧ w.ownsRow 0 92 2 v l.length (l.flatMap encR)
theorem HpR.frm {w w1 : World} {S : Nat → Prop} {g : Nat} {v : Value} {l : List It} (h : HpR w g v l) (hF : Frm S w w1) (hn : ∀ k, foot g v k → ¬ S k) : HpR w1 g v l :=
  ⟨hF.blk h.1 (hn g (.inl rfl)), hF.row h.2 (fun k hk => hn k (.inr hk))⟩
theorem HpR.drew {w : World} {g : Nat} {v : Value} {l : List It} (h : HpR w g v l) : HpR w.drew g v l := ⟨h.1, h.2⟩
theorem HpR.drewN {w : World} {g : Nat} {v : Value} {l : List It} (h : HpR w g v l) (n : Nat) : HpR (w.drewN n) g v l := ⟨h.1, h.2⟩
theorem HpR.val {w : World} {g : Nat} {v : Value} {l : List It} (h : HpR w g v l) : ∃ A c, v = .slice A l.length c := by
  rcases h.2.2 with ⟨rfl, h0⟩ | ⟨b, cap, cur, rfl, _⟩
  · exact ⟨_, _, by rw [h0]⟩
  · exact ⟨_, _, rfl⟩
theorem row_cellsR {w : World} {b : Nat} {cur : Array Value} {l : List It} (hb : w.heap[b]? = some (.cells cur 92 (0, 0))) (ht : cur.toList.take (l.length * 2) = l.flatMap encR) {i : Nat} {x : It} (hx : l[i]? = some x) :
    w.cell? ⟨b, i * 2, none⟩ = some (.int .i64 x.key) ∧ w.cell? ⟨b, i * 2 + 1, none⟩ = some (.int .i64 x.val) := by
  have hi : i < l.length := (List.getElem?_eq_some_iff.1 hx).1
  have key : ∀ j, j < 2 → w.cell? ⟨b, i * 2 + j, none⟩ = (encR x)[j]? := by
    intro j hj
    rw [blk_cell hb, ← flat_get encR_len l i j x hx hj, ← ht, List.getElem?_take_of_lt (by omega), Array.getElem?_toList]
  exact ⟨key 0 (by omega), key 1 (by omega)⟩
theorem row_openR {w : World} {v : Value} {l : List It} (h : w.ownsRow 0 92 2 v l.length (l.flatMap encR)) (hn : 0 < l.length) : ∃ b cap cur, v = .slice (some ⟨b, 0, none⟩) l.length cap ∧ w.heap[b]? = some (.cells cur 92 (0, 0)) ∧ cur.toList.take (l.length * 2) = l.flatMap encR := by
  rcases h.2 with ⟨h, h0⟩ | ⟨b', cap', cur, h, _, hb, _, _, _, ht⟩
  · omega
  · exact ⟨b', cap', cur, h, hb, ht⟩

theorem rlen_calls (w : World) (g : Nat) (v : Value) (l : List It) (h : HpR w g v l) : Calls Try.prog 33 #[.pointer (some ⟨g, 0, none⟩)] w fun e w' => e = .returned (.int .i64 l.length) ∧ Drawn0 w w' := by
  obtain ⟨A, c, rfl⟩ := h.val
  have h0 : w.cell? ⟨g, 0, none⟩ = some (.slice A l.length c) := blk_cell h.1 0
  go_enter Try.func33, Try.ntmps33
  go_wp2
  go_ret
  exact ⟨rfl, Drawn0.refl _⟩
theorem rnew_calls (w : World) : Calls Try.prog 16 #[] w fun e w' => ∃ g, e = .returned (.pointer (some ⟨g, 0, none⟩)) ∧ w.heap.size ≤ g ∧ HpR w' g (.slice none 0 0) [] ∧ Below w.heap.size w w' := by
  go_enter Try.func16, Try.ntmps16
  go_wp2
  go_ret
  exact ⟨_, rfl, Nat.le_refl _, ⟨heap_alloc_new _ _, by simp, .inl ⟨rfl, rfl⟩⟩, below_alloc (Below.refl _ _) _⟩

/-- The place of the first, from place i on, the best so far at hand. -/
def fstGo (l : List It) : Nat → Int → Nat → Int
  | 0, best, _ => best
  | k + 1, best, i => if i < l.length then fstGo l k (if best < 0 ∨ (l[i]!).key < (l[best.toNat]!).key then (i : Int) else best) (i + 1) else best
def fst (l : List It) : Int := fstGo l l.length (-1) 0
theorem fstGo_range (l : List It) : ∀ (k : Nat) (best : Int) (i : Nat), -1 ≤ best → best < l.length → -1 ≤ fstGo l k best i ∧ fstGo l k best i < l.length
  | 0, best, i, h1, h2 => ⟨h1, h2⟩
  | k + 1, best, i, h1, h2 => by
    unfold fstGo
    split
    · refine fstGo_range l k _ _ ?_ ?_ <;> split <;> omega
    · exact ⟨h1, h2⟩

set_option maxHeartbeats 8000000 in
set_option maxRecDepth 100000 in
theorem first_calls (w : World) (g : Nat) (v : Value) (l : List It) (h : HpR w g v l) (hl : l.length * 16 ≤ 140737488355328) : Calls Try.prog 54 #[.pointer (some ⟨g, 0, none⟩)] w fun e w' => e = .returned (.int .i64 (fst l)) ∧ Drawn0 w w' := by
  obtain ⟨A, c, rfl⟩ := h.val
  have hH := Aside0.mk h
  have h0 : w.cell? ⟨g, 0, none⟩ = some (.slice A l.length c) := blk_cell h.1 0
  clear h
  go_enter Try.func54, Try.ntmps54
  go_wp2_with fail
  go_loopg [3, 4] (l.length + 1) (fun gk v3 v4 wr => ∃ (best : Int) (i k n : Nat), v3 = .int .i64 best ∧ v4 = .int .i64 i ∧ i ≤ l.length ∧ l.length + 1 ≤ i + gk ∧ l.length ≤ i + k ∧ -1 ≤ best ∧ best < i ∧ (i = 0 ∨ 0 ≤ best) ∧ wr = w.drewN n ∧ Aside0 (fst l = fstGo l k best i))
  case atStart => exact ⟨-1, 0, l.length, 0, by go_num, by go_num, by omega, by omega, by omega, by omega, by omega, .inl rfl, rfl, ⟨rfl⟩⟩
  case round =>
    obtain ⟨best, i, k, n, rfl, rfl, hil, hgk, hk, hb1, hb2, hb3, rfl, HE⟩ := hrel
    have h0n : (w.drewN n).cell? ⟨g, 0, none⟩ = some (.slice A l.length c) := h0
    by_cases hi : i < l.length
    · have hib : decide ((i : Int) < (l.length : Int)) = true := decide_eq_true (by omega)
      obtain ⟨b, cap, cur, hv, hb, ht⟩ := row_openR hH.out.2 (by omega)
      simp only [Value.slice.injEq] at hv
      obtain ⟨rfl, _, rfl⟩ := hv
      obtain ⟨x, hx⟩ : ∃ x, l[i]? = some x := ⟨_, List.getElem?_eq_getElem (by omega)⟩
      have hxi : l[i]! = x := by simp [hx]
      obtain ⟨x0, x1⟩ := row_cellsR hb ht hx
      obtain ⟨k, rfl⟩ : ∃ q, k = q + 1 := ⟨k - 1, by omega⟩
      have hstep : fstGo l (k + 1) best i = fstGo l k (if best < 0 ∨ x.key < (l[best.toNat]!).key then (i : Int) else best) (i + 1) := by
        rw [fstGo, if_pos hi, hxi]
      by_cases hneg : best < 0
      · have hnb : decide (best < 0) = true := decide_eq_true hneg
        clear ht hb
        go_wp2_with fail
        go_quiet (fail)
        go_wp2_with fail
        go_roundg (l.length - i)
        case measure => omega
        case rel => exact ⟨i, i + 1, k, _, by go_num, by go_num, by omega, by omega, by omega, by omega, by omega, .inr (by omega), rfl, ⟨by rw [HE.out, hstep, if_pos (.inl hneg)]⟩⟩
      · have hnb : decide (best < 0) = false := decide_eq_false hneg
        obtain ⟨m, rfl⟩ : ∃ m : Nat, best = (m : Int) := ⟨best.toNat, by omega⟩
        obtain ⟨y, hy⟩ : ∃ y, l[m]? = some y := ⟨_, List.getElem?_eq_getElem (by omega)⟩
        have hyi : l[(m : Int).toNat]! = y := by simp [hy]
        rw [hyi] at hstep
        obtain ⟨y0, y1⟩ := row_cellsR hb ht hy
        have hmb : (m : Int) < (l.length : Int) := by omega
        have hib2 : (i : Int) < (l.length : Int) := by omega
        clear ht hb
        by_cases hlt : x.key < y.key
        · have hltb : decide (x.key < y.key) = true := decide_eq_true hlt
          go_wp2_with fail
          go_quiet (fail)
          go_wp2_with fail
          go_roundg (l.length - i)
          case measure => omega
          case rel => exact ⟨i, i + 1, k, _, by go_num, by go_num, by omega, by omega, by omega, by omega, by omega, .inr (by omega), rfl, ⟨by rw [HE.out, hstep, if_pos (.inr hlt)]⟩⟩
        · have hltb : decide (x.key < y.key) = false := decide_eq_false hlt
          go_wp2_with fail
          go_quiet (fail)
          go_wp2_with fail
          go_roundg (l.length - i)
          case measure => omega
          case rel => exact ⟨(m : Int), i + 1, k, _, by go_num, by go_num, by omega, by omega, by omega, by omega, by omega, .inr (by omega), rfl, ⟨by rw [HE.out, hstep, if_neg (by omega)]⟩⟩
    · have hib : decide ((i : Int) < (l.length : Int)) = false := decide_eq_false (by omega)
      have hE : fst l = best := by
        rw [HE.out]
        cases k with
        | zero => rfl
        | succ k => rw [fstGo, if_neg hi]
      go_wp2
      go_ret
      exact ⟨by rw [hE]; rfl, ⟨_, rfl⟩⟩
end Go.Proofs.Ytekcpcipbccodaa.Mem
