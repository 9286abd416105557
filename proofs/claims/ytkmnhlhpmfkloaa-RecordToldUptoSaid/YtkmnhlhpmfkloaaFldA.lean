/- The buffer of fields: what it holds, and what each of its calls does, walked by hand. -/
import Derived.Test.YtkmnhlhpmfkloaaMem
import Derived.Test.YtkmnhlhpmfkloaaProg
import Derived.KernelRfl
import Derived.OwnWalk
import Derived.Deep.Cut
import Derived.Deep.RegionLaw
import Derived.Lib.AppendStr
namespace Go.Proofs.Ytkmnhlhpmfkloaa.Fld
open Go.RowKit Go.Proofs.YtkmnhlhpmfkloaaW.PrintWords Go.Proofs.YtkmnhlhpmfkloaaW.PrintLast Go.Proofs.YtkmnhlhpmfkloaaW.PrintMore Go.Proofs.Ytkmnhlhpmfkloaa.Mem
set_option linter.unusedVariables false
set_option linter.unusedSimpArgs false

/-- The lowest n bytes of v, the lowest first. -/
def le : Nat → Int → List Int
  | 0, _ => []
  | n + 1, v => v % 256 :: le n (v / 256)
theorem le_length : ∀ (n : Nat) (v : Int), (le n v).length = n
  | 0, _ => rfl
  | n + 1, v => by rw [le, List.length_cons, le_length n]

/-- A buffer: its bytes, its limit, its first error. -/
structure BS where
  l : List Int
  lim : Int
  err : Int
def BS.num (b : BS) (v : Int) (n : Nat) : BS :=
  if b.err ≠ 0 then b else if v < 0 ∨ (256 : Int) ^ n ≤ v then { b with err := 21 } else if b.lim - b.l.length < n then { b with err := 22 } else { b with l := b.l ++ le n v }
def BS.text (b : BS) (s : ByteArray) : BS :=
  if b.err ≠ 0 then b else if b.lim - b.l.length < s.size then { b with err := 22 } else { b with l := b.l ++ bytesOf s }

def Buf (w : World) (S : Nat → Prop) (g : Nat) (b : BS) : Prop :=
  ∃ v, w.heap[g]? = some (.cells #[v, .int .i64 b.lim, .int .i64 b.err] 123 (0, 0)) ∧ w.ownsRow 0 5 1 v b.l.length (b.l.map (Value.int .u8)) ∧
    S g ∧ (∀ k, v.ownBlock = some k → S k) ∧ (b.l.length : Int) ≤ b.lim ∧ b.lim ≤ 1048576

section
variable {w w1 : World} {S S1 : Nat → Prop} {g : Nat} {b : BS}
theorem Buf.frm (h : Buf w S g b) (hF : Frm S1 w w1) (hn : ∀ k, S k → k < w.heap.size → ¬ S1 k) : Buf w1 S g b := by
  obtain ⟨v, hg, hr, sg, sr, h1, h2⟩ := h
  exact ⟨v, hF.blk hg (hn g sg (blk_lt hg)), hF.row hr (fun k hk => hn k (sr k hk) (own_lt hr k hk)), sg, sr, h1, h2⟩
theorem Buf.drew (h : Buf w S g b) : Buf w.drew S g b := h
theorem Buf.drewN (h : Buf w S g b) (n : Nat) : Buf (w.drewN n) S g b := h
end

theorem err_calls (w : World) (S : Nat → Prop) (g : Nat) (b : BS) (h : Buf w S g b) : Calls Try.prog 76 #[.pointer (some ⟨g, 0, none⟩)] w fun e w' => e = .returned (.int .i64 b.err) ∧ Drawn0 w w' := by
  obtain ⟨v, hg, hr, sg, sr, hl, hm⟩ := h
  have h2 : w.cell? ⟨g, 2, none⟩ = some (.int .i64 b.err) := blk_cell hg 2
  go_enter Try.func76, Try.ntmps76
  go_wp2
  go_ret
  exact ⟨rfl, Drawn0.refl _⟩

theorem new_calls (w : World) (S : Nat → Prop) (lim : Int) (h0 : 0 ≤ lim) (h1 : lim ≤ 1048576) (hS : ∀ k, w.heap.size ≤ k → S k) : Calls Try.prog 48 #[.int .i64 lim] w fun e w' => ∃ g, e = .returned (.pointer (some ⟨g, 0, none⟩)) ∧ Buf w' S g ⟨[], lim, 0⟩ ∧ Below w.heap.size w w' := by
  have hb : decide (lim < 0) = false := decide_eq_false (by omega)
  go_enter Try.func48, Try.ntmps48
  go_wp2
  go_ret
  exact ⟨_, rfl, ⟨_, heap_alloc_new _ _, by simpa using own_nil _ _ _ _, hS _ (Nat.le_refl _), fun k hk => by simp [Value.ownBlock] at hk, by simpa using h0, h1⟩, below_alloc (Below.refl _ _) _⟩

theorem nine {v : Value} {w : World} {g n : Nat} {cells : Array Value} {l : List Value} (hg : w.heap[g]? = some (.cells cells 123 (0, 0))) (hv : w.ownsRow 0 5 1 v n l) : some g ≠ v.ownBlock := by
  rcases hv.2 with ⟨rfl, _⟩ | ⟨b, cap, cur, rfl, _, hb, _⟩
  · simp [Value.ownBlock]
  · simp only [Value.ownBlock, ne_eq, Option.some.injEq]
    exact blk_ne hg hb (by decide)
theorem Try.infoB : (Try.prog.info? 5).map (fun i => (i.zero, i.size, i.bytes)) = some (some (.int .u8 0), 1, 1) := by kernel_rfl

/-- What one append of bytes to the buffer's row, and the store of the new row, leave. -/
theorem app_made {w w1 : World} {S : Nat → Prop} {g gg cap n : Nat} {v : Value} {b : BS} {ys : List Int} (hg : w.heap[g]? = some (.cells #[v, .int .i64 b.lim, .int .i64 b.err] 123 (0, 0)))
    (hv : w.ownsRow 0 5 1 v b.l.length (b.l.map (Value.int .u8))) (sg : S g) (sr : ∀ k, v.ownBlock = some k → S k) (hS : ∀ k, w.heap.size ≤ k → S k) (hl : ((b.l ++ ys).length : Int) ≤ b.lim) (hm : b.lim ≤ 1048576)
    {w0 : World} (hw0 : Frm S w w0) (hw0g : w0.heap[g]? = w.heap[g]?)
    (hn : n = (b.l ++ ys).length) (hown1 : w1.ownsRow 0 5 1 (.slice (some ⟨gg, 0, none⟩) n cap) n ((b.l ++ ys).map (Value.int .u8)))
    (hgrow : w0.grownBy w1 v.ownBlock) (hat : v.ownBlock = some gg ∨ w.heap.size ≤ gg) :
    Buf (w1.setCell ⟨g, 0, none⟩ (.slice (some ⟨gg, 0, none⟩) n cap)) S g { b with l := b.l ++ ys } ∧ Frm S w (w1.setCell ⟨g, 0, none⟩ (.slice (some ⟨gg, 0, none⟩) n cap)) := by
  subst hn
  have ag := nine hg hv
  have lg := blk_lt hg
  have hb1 : w1.heap[g]? = some (.cells #[v, .int .i64 b.lim, .int .i64 b.err] 123 (0, 0)) := (hgrow.block g (Nat.lt_of_lt_of_le lg hw0.size) ag).trans (hw0g.trans hg)
  have hF1 : Frm S w w1 := hw0.trans (Frm.of_grown (S := S) hgrow (fun k hk => sr k hk)) (fun k hk => .inl hk)
  have hne : g ≠ gg := by
    rcases hat with h | h
    · intro e; exact ag (by rw [h, e])
    · omega
  refine ⟨⟨.slice (some ⟨gg, 0, none⟩) (b.l ++ ys).length cap, by simpa using blk_set hb1 0 (.slice (some ⟨gg, 0, none⟩) (b.l ++ ys).length cap), ?_, sg, ?_, hl, hm⟩, hF1.setCell (.inl sg) _⟩
  · exact ((Frm.refl (fun k => k = g) w1).setCell (p := ⟨g, 0, none⟩) (.inl rfl) (.slice (some ⟨gg, 0, none⟩) (b.l ++ ys).length cap)).row hown1 (by rintro k e rfl; exact hne (Option.some.inj e).symm)
  · intro k e
    have e2 : gg = k := Option.some.inj e
    subst e2
    rcases hat with h | h
    · exact sr _ h
    · exact hS _ h

theorem le_succ_snoc (n : Nat) (v : Int) : le (n + 1) v = v % 256 :: le n (v / 256) := rfl
theorem BS.num_err {b : BS} (h : b.err ≠ 0) (v : Int) (n : Nat) : b.num v n = b := by unfold BS.num; rw [if_pos h]
theorem BS.text_err {b : BS} (h : b.err ≠ 0) (s : ByteArray) : b.text s = b := by unfold BS.text; rw [if_pos h]
theorem err_set {w : World} {S : Nat → Prop} {g : Nat} {b : BS} (h : Buf w S g b) (c : Int) : Buf (w.setCell ⟨g, 2, none⟩ (.int .i64 c)) S g { b with err := c } ∧ Frm S w (w.setCell ⟨g, 2, none⟩ (.int .i64 c)) := by
  obtain ⟨v, hg, hr, sg, sr, hl, hm⟩ := h
  have ag := nine hg hr
  exact ⟨⟨v, by simpa using blk_set hg 2 (.int .i64 c), ((Frm.refl (fun k => k = g) w).setCell (p := ⟨g, 2, none⟩) (.inl rfl) _).row hr (by rintro k e rfl; exact ag e.symm), sg, sr, hl, hm⟩, (Frm.refl S w).setCell (.inl sg) _⟩

theorem far_cell {wr w1 : World} {g j : Nat} {u : Value} {o : Obj} {row : Option Nat} (hgrow : (wr.alloc o).grownBy w1 row) (ag : some g ≠ row) (lg : g < wr.heap.size) (d : wr.cell? ⟨g, j, none⟩ = some u) : w1.cell? ⟨g, j, none⟩ = some u :=
  (hgrow.cell_far ⟨g, j, none⟩ (by simp; omega) ag).trans (by rw [World.cell?_alloc_lt _ _ _ lg]; exact d)
theorem far_frz {wr w1 : World} {g j : Nat} {o : Obj} {row : Option Nat} (hgrow : (wr.alloc o).grownBy w1 row) (ag : some g ≠ row) (lg : g < wr.heap.size) (d : wr.frozen? ⟨g, j, none⟩ = false) : w1.frozen? ⟨g, j, none⟩ = false :=
  (hgrow.frozen_far ⟨g, j, none⟩ (by simp; omega) ag).trans (by rw [World.frozen?_alloc_old _ _ _ (Nat.ne_of_lt lg)]; exact d)

set_option maxHeartbeats 4000000 in
set_option maxRecDepth 100000 in
theorem number2 (w : World) (S : Nat → Prop) (g : Nat) (b : BS) (v : Int) (h : Buf w S g b) (hS : ∀ k, w.heap.size ≤ k → S k) : Calls Try.prog 75 #[.pointer (some ⟨g, 0, none⟩), .int .i64 v, .int .i64 2] w fun e w' =>
    e = .returned (.tuple #[]) ∧ Buf w' S g (b.num v 2) ∧ Frm S w w' := by
  have HH := Aside0.mk h
  obtain ⟨v0, hg, hr, sg, sr, hl, hm⟩ := h
  have c2 : w.cell? ⟨g, 2, none⟩ = some (.int .i64 b.err) := blk_cell hg 2
  have c1 : w.cell? ⟨g, 1, none⟩ = some (.int .i64 b.lim) := blk_cell hg 1
  have c0 : w.cell? ⟨g, 0, none⟩ = some v0 := blk_cell hg 0
  have f2 : w.frozen? ⟨g, 2, none⟩ = false := blk_frozen hg 2
  obtain ⟨A, cp, rfl⟩ : ∃ A cp, v0 = .slice A b.l.length cp := by
    rcases hr.2 with ⟨rfl, h0⟩ | ⟨b', cap, cur, rfl, _⟩
    · exact ⟨_, _, by rw [h0]⟩
    · exact ⟨_, _, rfl⟩
  by_cases he : b.err = 0
  · have heb : (b.err != 0) = false := by simpa using he
    have hlim0 : (0 : Int) ≤ b.lim - b.l.length := by omega
    have hlim1 : b.lim - (b.l.length : Int) ≤ 1048576 := by omega
    by_cases hneg : v < 0
    · have hnegb : decide (v < 0) = true := decide_eq_true hneg
      have hfin : b.num v 2 = { b with err := 21 } := by unfold BS.num; rw [if_neg (by omega), if_pos (.inl hneg)]
      have hres := err_set HH.out 21
      rw [hfin]
      have HR := Aside0.mk hres
      clear hres hfin hl hm hr hg sr he
      go_enter Try.func75, Try.ntmps75
      go_wp2
      refine bodyPost_ret (results_none rfl _ _ _) rfl ?_
      exact ⟨rfl, HR.out⟩
    · have hnegb : decide (v < 0) = false := decide_eq_false hneg
      by_cases hbig : 65536 ≤ v
      · have hbigb : decide (65536 ≤ v) = true := decide_eq_true hbig
        have hfin : b.num v 2 = { b with err := 21 } := by unfold BS.num; rw [if_neg (by omega), if_pos (.inr (by simpa using hbig))]
        have hres := err_set HH.out 21
        rw [hfin]
        have HR := Aside0.mk hres
        clear hres hfin hl hm hr hg sr he
        go_enter Try.func75, Try.ntmps75
        go_wp2
        refine bodyPost_ret (results_none rfl _ _ _) rfl ?_
        exact ⟨rfl, HR.out⟩
      · have hbigb : decide (65536 ≤ v) = false := decide_eq_false hbig
        by_cases hroom : b.lim - (b.l.length : Int) < 2
        · have hroomb : decide (b.lim - (b.l.length : Int) < 2) = true := decide_eq_true hroom
          have hfin : b.num v 2 = { b with err := 22 } := by unfold BS.num; rw [if_neg (by omega), if_neg (by simp; omega), if_pos (by exact hroom)]
          have hres := err_set HH.out 22
          rw [hfin]
          have HR := Aside0.mk hres
          clear hres hfin hl hm hr hg sr he
          go_enter Try.func75, Try.ntmps75
          go_wp2
          go_quiet (fail)
          go_wp2
          refine bodyPost_ret (results_none rfl _ _ _) rfl ?_
          exact ⟨rfl, HR.out.1, HR.out.2.drewN nq⟩
        · have hroomb : decide (b.lim - (b.l.length : Int) < 2) = false := decide_eq_false hroom
          have hfin : b.num v 2 = { b with l := b.l ++ le 2 v } := by unfold BS.num; rw [if_neg (by omega), if_neg (by simp; omega), if_neg (by exact hroom)]
          rw [hfin]
          clear hfin hl hm hr hg sr he
          obtain ⟨i0, hi0, hz0, hz1, hz2⟩ := info_parts Try.infoB
          go_enter Try.func75, Try.ntmps75
          go_wp2
          go_quiet (fail)
          go_wp2
          go_loopg [1, 43] 8 (fun gk v1 v43 wr => ∃ (x : Int) (j i : Nat) (lk : List Int), v1 = .int .i64 x ∧ v43 = .int .i64 i ∧ i + j = 2 ∧ j + 1 ≤ gk ∧ 0 ≤ x ∧ x ≤ 4294967295 ∧ Aside0 (Buf wr S g { b with l := lk }) ∧ Aside0 (Frm S w wr) ∧ Aside0 (lk ++ le j x = b.l ++ le 2 v))
          case atStart => exact ⟨v, 2, 0, b.l, rfl, rfl, rfl, by omega, by omega, by omega, ⟨HH.out.drewN _⟩, ⟨(Frm.refl S w).drewN _⟩, ⟨rfl⟩⟩
          case round =>
            obtain ⟨x, j, i, lk, rfl, rfl, hij, hjk, hx0, hx1, HB, HF, HE⟩ := hrel
            by_cases hj : j = 0
            · subst hj
              have hib : decide ((i : Int) < 2) = false := decide_eq_false (by omega)
              go_wp2
              go_end0
              have hE : b.l ++ le 2 v = lk := HE.out.symm.trans (by simp [le])
              exact ⟨rfl, by rw [hE]; exact HB.out, HF.out⟩
            · have hib : decide ((i : Int) < 2) = true := decide_eq_true (by omega)
              obtain ⟨j, rfl⟩ : ∃ q, j = q + 1 := ⟨j - 1, by omega⟩
              obtain ⟨vk, hg, hr, sg', sr, hl, hm⟩ := HB.out
              replace hg : wr.heap[g]? = some (.cells #[vk, .int .i64 b.lim, .int .i64 b.err] 123 (0, 0)) := hg
              replace hr : wr.ownsRow 0 5 1 vk lk.length (lk.map (Value.int .u8)) := hr
              replace hl : (lk.length : Int) ≤ b.lim := hl
              replace hm : b.lim ≤ 1048576 := hm
              have d0 : wr.cell? ⟨g, 0, none⟩ = some vk := blk_cell hg 0
              have e0 : wr.frozen? ⟨g, 0, none⟩ = false := blk_frozen hg 0
              have lg := blk_lt hg
              have ag := nine hg hr
              have hlen : (lk ++ le (j + 1) x).length = b.l.length + 2 := by rw [HE.out]; simp [le_length]
              have hlk : lk.length + (j + 1) = b.l.length + 2 := by simpa [le_length] using hlen
              clear hlen
              have hroom' : (lk.length : Int) + 1 ≤ b.lim := by omega
              go_wp2_with (at_builtin; refine wpList_append_lies _ (by rfl) _ _ _ (by rfl) 0 5 i0 _ 1 1 Try.underlying25 hi0 hz0 hz1 hz2 rfl (by omega) vk lk.length (lk.map (Value.int .u8)) ?a1 (hr.alloc _) ⟨wr.heap.size, 0, none⟩ 1 1 [.int .u8 (x % 256)] ?a2 ?a3 ?a4 ?a5 ?a6 ?a7 ?a8 ?a9 (wr.heap.size+1) ?a10 ?a11; (case a1 => rfl); (case a2 => rfl); (case a3 => rfl); (case a4 => exact World.news_of_block (cs := #[.int .u8 (x % 256)]) (t := 5) (fr := (0, 0)) (heap_alloc_new wr _)); (case a5 => simp [Value.oneCell']); (case a6 => omega); (case a7 => simp only [maxLen]; omega); (case a8 => omega); (case a9 => simp); (case a10 => simp); intro gg cap w1 hown1 hgrow hat hlt; have q1 := far_cell hgrow ag lg d0; have q2 := far_frz hgrow ag lg e0)
              go_roundg (j + 1)
              case measure => omega
              case rel =>
                have hA := app_made (n := lk.length + 1) (b := { b with l := lk }) (ys := [x % 256]) hg hr sg' sr (fun k hk => hS k (Nat.le_trans HF.out.size hk)) (by simpa using hroom') hm ((Frm.refl S wr).alloc _) (Below.heap_alloc wr _ g lg) (by simp) (by simpa using hown1) hgrow (hat.imp id (fun h => by omega))
                exact ⟨x / 256, j, i + 1, lk ++ [x % 256], rfl, by go_num, by omega, by omega, by omega, by omega, ⟨by simpa using hA.1⟩, ⟨HF.out.trans (by simpa using hA.2) (fun k hk => .inl hk)⟩, ⟨by rw [← HE.out, le_succ_snoc, List.append_assoc]; rfl⟩⟩
  · have heb : (b.err != 0) = true := by simpa using he
    have hfin := BS.num_err he v 2
    rw [hfin]
    clear hfin hl hm hr hg sr
    go_enter Try.func75, Try.ntmps75
    go_wp2
    refine bodyPost_ret (results_none rfl _ _ _) rfl ?_
    exact ⟨rfl, HH.out, Frm.refl _ _⟩

set_option maxHeartbeats 4000000 in
set_option maxRecDepth 100000 in
theorem number4 (w : World) (S : Nat → Prop) (g : Nat) (b : BS) (v : Int) (h : Buf w S g b) (hS : ∀ k, w.heap.size ≤ k → S k) : Calls Try.prog 75 #[.pointer (some ⟨g, 0, none⟩), .int .i64 v, .int .i64 4] w fun e w' =>
    e = .returned (.tuple #[]) ∧ Buf w' S g (b.num v 4) ∧ Frm S w w' := by
  have HH := Aside0.mk h
  obtain ⟨v0, hg, hr, sg, sr, hl, hm⟩ := h
  have c2 : w.cell? ⟨g, 2, none⟩ = some (.int .i64 b.err) := blk_cell hg 2
  have c1 : w.cell? ⟨g, 1, none⟩ = some (.int .i64 b.lim) := blk_cell hg 1
  have c0 : w.cell? ⟨g, 0, none⟩ = some v0 := blk_cell hg 0
  have f2 : w.frozen? ⟨g, 2, none⟩ = false := blk_frozen hg 2
  obtain ⟨A, cp, rfl⟩ : ∃ A cp, v0 = .slice A b.l.length cp := by
    rcases hr.2 with ⟨rfl, h0⟩ | ⟨b', cap, cur, rfl, _⟩
    · exact ⟨_, _, by rw [h0]⟩
    · exact ⟨_, _, rfl⟩
  by_cases he : b.err = 0
  · have heb : (b.err != 0) = false := by simpa using he
    have hlim0 : (0 : Int) ≤ b.lim - b.l.length := by omega
    have hlim1 : b.lim - (b.l.length : Int) ≤ 1048576 := by omega
    by_cases hneg : v < 0
    · have hnegb : decide (v < 0) = true := decide_eq_true hneg
      have hfin : b.num v 4 = { b with err := 21 } := by unfold BS.num; rw [if_neg (by omega), if_pos (.inl hneg)]
      have hres := err_set HH.out 21
      rw [hfin]
      have HR := Aside0.mk hres
      clear hres hfin hl hm hr hg sr he
      go_enter Try.func75, Try.ntmps75
      go_wp2
      refine bodyPost_ret (results_none rfl _ _ _) rfl ?_
      exact ⟨rfl, HR.out⟩
    · have hnegb : decide (v < 0) = false := decide_eq_false hneg
      by_cases hbig : 4294967296 ≤ v
      · have hbigb : decide (4294967296 ≤ v) = true := decide_eq_true hbig
        have hfin : b.num v 4 = { b with err := 21 } := by unfold BS.num; rw [if_neg (by omega), if_pos (.inr (by simpa using hbig))]
        have hres := err_set HH.out 21
        rw [hfin]
        have HR := Aside0.mk hres
        clear hres hfin hl hm hr hg sr he
        go_enter Try.func75, Try.ntmps75
        go_wp2
        refine bodyPost_ret (results_none rfl _ _ _) rfl ?_
        exact ⟨rfl, HR.out⟩
      · have hbigb : decide (4294967296 ≤ v) = false := decide_eq_false hbig
        by_cases hroom : b.lim - (b.l.length : Int) < 4
        · have hroomb : decide (b.lim - (b.l.length : Int) < 4) = true := decide_eq_true hroom
          have hfin : b.num v 4 = { b with err := 22 } := by unfold BS.num; rw [if_neg (by omega), if_neg (by simp; omega), if_pos (by exact hroom)]
          have hres := err_set HH.out 22
          rw [hfin]
          have HR := Aside0.mk hres
          clear hres hfin hl hm hr hg sr he
          go_enter Try.func75, Try.ntmps75
          go_wp2
          go_quiet (fail)
          go_wp2
          refine bodyPost_ret (results_none rfl _ _ _) rfl ?_
          exact ⟨rfl, HR.out.1, HR.out.2.drewN nq⟩
        · have hroomb : decide (b.lim - (b.l.length : Int) < 4) = false := decide_eq_false hroom
          have hfin : b.num v 4 = { b with l := b.l ++ le 4 v } := by unfold BS.num; rw [if_neg (by omega), if_neg (by simp; omega), if_neg (by exact hroom)]
          rw [hfin]
          clear hfin hl hm hr hg sr he
          obtain ⟨i0, hi0, hz0, hz1, hz2⟩ := info_parts Try.infoB
          go_enter Try.func75, Try.ntmps75
          go_wp2
          go_quiet (fail)
          go_wp2
          go_loopg [1, 43] 8 (fun gk v1 v43 wr => ∃ (x : Int) (j i : Nat) (lk : List Int), v1 = .int .i64 x ∧ v43 = .int .i64 i ∧ i + j = 4 ∧ j + 1 ≤ gk ∧ 0 ≤ x ∧ x ≤ 4294967295 ∧ Aside0 (Buf wr S g { b with l := lk }) ∧ Aside0 (Frm S w wr) ∧ Aside0 (lk ++ le j x = b.l ++ le 4 v))
          case atStart => exact ⟨v, 4, 0, b.l, rfl, rfl, rfl, by omega, by omega, by omega, ⟨HH.out.drewN _⟩, ⟨(Frm.refl S w).drewN _⟩, ⟨rfl⟩⟩
          case round =>
            obtain ⟨x, j, i, lk, rfl, rfl, hij, hjk, hx0, hx1, HB, HF, HE⟩ := hrel
            by_cases hj : j = 0
            · subst hj
              have hib : decide ((i : Int) < 4) = false := decide_eq_false (by omega)
              go_wp2
              go_end0
              have hE : b.l ++ le 4 v = lk := HE.out.symm.trans (by simp [le])
              exact ⟨rfl, by rw [hE]; exact HB.out, HF.out⟩
            · have hib : decide ((i : Int) < 4) = true := decide_eq_true (by omega)
              obtain ⟨j, rfl⟩ : ∃ q, j = q + 1 := ⟨j - 1, by omega⟩
              obtain ⟨vk, hg, hr, sg', sr, hl, hm⟩ := HB.out
              replace hg : wr.heap[g]? = some (.cells #[vk, .int .i64 b.lim, .int .i64 b.err] 123 (0, 0)) := hg
              replace hr : wr.ownsRow 0 5 1 vk lk.length (lk.map (Value.int .u8)) := hr
              replace hl : (lk.length : Int) ≤ b.lim := hl
              replace hm : b.lim ≤ 1048576 := hm
              have d0 : wr.cell? ⟨g, 0, none⟩ = some vk := blk_cell hg 0
              have e0 : wr.frozen? ⟨g, 0, none⟩ = false := blk_frozen hg 0
              have lg := blk_lt hg
              have ag := nine hg hr
              have hlen : (lk ++ le (j + 1) x).length = b.l.length + 4 := by rw [HE.out]; simp [le_length]
              have hlk : lk.length + (j + 1) = b.l.length + 4 := by simpa [le_length] using hlen
              clear hlen
              have hroom' : (lk.length : Int) + 1 ≤ b.lim := by omega
              go_wp2_with (at_builtin; refine wpList_append_lies _ (by rfl) _ _ _ (by rfl) 0 5 i0 _ 1 1 Try.underlying25 hi0 hz0 hz1 hz2 rfl (by omega) vk lk.length (lk.map (Value.int .u8)) ?a1 (hr.alloc _) ⟨wr.heap.size, 0, none⟩ 1 1 [.int .u8 (x % 256)] ?a2 ?a3 ?a4 ?a5 ?a6 ?a7 ?a8 ?a9 (wr.heap.size+1) ?a10 ?a11; (case a1 => rfl); (case a2 => rfl); (case a3 => rfl); (case a4 => exact World.news_of_block (cs := #[.int .u8 (x % 256)]) (t := 5) (fr := (0, 0)) (heap_alloc_new wr _)); (case a5 => simp [Value.oneCell']); (case a6 => omega); (case a7 => simp only [maxLen]; omega); (case a8 => omega); (case a9 => simp); (case a10 => simp); intro gg cap w1 hown1 hgrow hat hlt; have q1 := far_cell hgrow ag lg d0; have q2 := far_frz hgrow ag lg e0)
              go_roundg (j + 1)
              case measure => omega
              case rel =>
                have hA := app_made (n := lk.length + 1) (b := { b with l := lk }) (ys := [x % 256]) hg hr sg' sr (fun k hk => hS k (Nat.le_trans HF.out.size hk)) (by simpa using hroom') hm ((Frm.refl S wr).alloc _) (Below.heap_alloc wr _ g lg) (by simp) (by simpa using hown1) hgrow (hat.imp id (fun h => by omega))
                exact ⟨x / 256, j, i + 1, lk ++ [x % 256], rfl, by go_num, by omega, by omega, by omega, by omega, ⟨by simpa using hA.1⟩, ⟨HF.out.trans (by simpa using hA.2) (fun k hk => .inl hk)⟩, ⟨by rw [← HE.out, le_succ_snoc, List.append_assoc]; rfl⟩⟩
  · have heb : (b.err != 0) = true := by simpa using he
    have hfin := BS.num_err he v 4
    rw [hfin]
    clear hfin hl hm hr hg sr
    go_enter Try.func75, Try.ntmps75
    go_wp2
    refine bodyPost_ret (results_none rfl _ _ _) rfl ?_
    exact ⟨rfl, HH.out, Frm.refl _ _⟩

theorem u16_calls (w : World) (S : Nat → Prop) (g : Nat) (b : BS) (v : Int) (h : Buf w S g b) (hS : ∀ k, w.heap.size ≤ k → S k) : Calls Try.prog 61 #[.pointer (some ⟨g, 0, none⟩), .int .i64 v] w fun e w' =>
    e = .returned (.tuple #[]) ∧ Buf w' S g (b.num v 2) ∧ Frm S w w' := by
  have H := Aside0.mk (number2 w S g b v h hS)
  clear h
  go_enter Try.func61, Try.ntmps61
  go_wp2_with (go_at_call 75; refine H.out.mono ?_; rintro e w1 ⟨rfl, hb⟩)
  go_end0
  exact ⟨rfl, hb⟩
theorem u32_calls (w : World) (S : Nat → Prop) (g : Nat) (b : BS) (v : Int) (h : Buf w S g b) (hS : ∀ k, w.heap.size ≤ k → S k) : Calls Try.prog 49 #[.pointer (some ⟨g, 0, none⟩), .int .i64 v] w fun e w' =>
    e = .returned (.tuple #[]) ∧ Buf w' S g (b.num v 4) ∧ Frm S w w' := by
  have H := Aside0.mk (number4 w S g b v h hS)
  clear h
  go_enter Try.func49, Try.ntmps49
  go_wp2_with (go_at_call 75; refine H.out.mono ?_; rintro e w1 ⟨rfl, hb⟩)
  go_end0
  exact ⟨rfl, hb⟩

theorem strCells_bytes (s : ByteArray) : Lib.strCells s = (bytesOf s).map (Value.int .u8) := by simp [bytesOf, Lib.strCells]
theorem bytesOf_length (s : ByteArray) : (bytesOf s).length = s.size := by
  rw [bytesOf, List.length_map, Array.length_toList]
  rfl
/-- Appending a string's bytes, and where the new row lies. -/
theorem run_append_string_at {P : Program} (w : World) (t u ty e : TypeId) (i : TypeInfo) (ht : P.underlying t = some (.slice e)) (hu : P.underlying u = some .string) (hi : P.info? e = some i) (hz : i.zero = some (.int .u8 0))
    (hsize : i.size = 1) (hby : i.bytes = 1) (v : Value) (n : Nat) (xs : List Value) (hown : w.ownsRow 0 e 1 v n xs) (s : ByteArray)
    (hbytes : n + s.size ≤ 140737488355328) :
    ∃ v' w', (Builtin.append_ #[t, u] ty #[v, .string s]).run P w = .ok v' w' ∧ w'.ownsRow 0 e 1 v' (n + s.size) (xs ++ Lib.strCells s) ∧ w.grownBy w' v.ownBlock ∧ (∀ k, v'.ownBlock = some k → v.ownBlock = some k ∨ w.heap.size ≤ k) := by
  have h63 : n + s.size ≤ maxLen := by simp only [maxLen]; omega
  obtain ⟨v', w', hr, h2, h3, _⟩ := Lib.run_append_own_string (P := P) w 0 t u ty e i ht hu hi hz hsize hby v n xs hown s h63 hbytes (Nat.zero_le _)
  refine ⟨v', w', hr, h2, h3, fun k hk => ?_⟩
  have hxl : xs.length = n := by simpa using hown.1
  rcases hown.2 with ⟨rfl, rfl⟩ | ⟨g, cap, cur, rfl, hbg, hg, hnc, hcm, hcs, htake⟩
  · have hx : xs = [] := List.eq_nil_of_length_eq_zero hxl
    subst hx
    obtain ⟨v2, w2, hr2, h22, _, _⟩ := Lib.run_append_own_string (P := P) w w.heap.size t u ty e i ht hu hi hz hsize hby (.slice none 0 0) 0 [] (own_nil _ _ _ _) s h63 hbytes (Nat.le_refl _)
    rw [hr] at hr2
    obtain ⟨rfl, rfl⟩ : v' = v2 ∧ w' = w2 := by simpa using hr2
    exact .inr (own_base h22 k hk)
  · by_cases hroom : n + s.size ≤ cap
    · have hr2 := Lib.run_append_room_string (P := P) w t u ty e i ht hu hi hsize g n cap cur hg s hroom (by rw [show cur.size = cap by simpa using hcs]; exact hroom)
      rw [hr] at hr2
      simp only [Result.ok.injEq] at hr2
      rw [hr2.1] at hk
      exact .inl hk
    · have holds : ∀ j u, xs[j]? = some u → w.cell? ((⟨g, 0, none⟩ : Addr).add j) = some u := hown.cells (g := g) rfl
      have hr2 := Lib.run_append_grow_string (P := P) w t u ty e i (.int .u8 0) ht hu hi hz ⟨g, 0, none⟩ n cap xs (by rw [hsize]; simpa using hxl) holds s (by omega) (by omega) (by rw [hby]; exact growslice_fits (by omega) (by omega))
      rw [hr] at hr2
      simp only [Result.ok.injEq] at hr2
      rw [hr2.1] at hk
      simp only [Value.ownBlock, Option.some.injEq] at hk
      exact .inr (by omega)
theorem wpList_append_string_at {P : Program} {w : World} {ops : Array Oper} {rest : List Oper} {o : Oper} {a : Act} {Q : Exit → Act → World → Prop} (hgd : o.guard = none) (sl x : Operand) (t u : TypeId)
    (ho : o.op = .call { callee := .builtin .append, args := #[sl, x], argTypes := #[t, u] })
    (e : TypeId) (i : TypeInfo) (ht : P.underlying t = some (.slice e)) (hu : P.underlying u = some .string) (hi : P.info? e = some i) (hz : i.zero = some (.int .u8 0))
    (hsize : i.size = 1) (hby : i.bytes = 1)
    (v : Value) (n : Nat) (xs : List Value) (hs : a.eval sl = v) (hown : w.ownsRow 0 e 1 v n xs) (s : ByteArray) (hx : a.eval x = .string s) (hbytes : n + s.size ≤ 140737488355328)
    (h : ∀ A c w', w'.ownsRow 0 e 1 (.slice A (n + s.size) c) (n + s.size) (xs ++ Lib.strCells s) → w.grownBy w' v.ownBlock → (∀ k, (Value.slice A (n + s.size) c).ownBlock = some k → v.ownBlock = some k ∨ w.heap.size ≤ k) → wpList P ops Q rest (a.put o.dst (.slice A (n + s.size) c)) w') : wpList P ops Q (o :: rest) a w := by
  refine wpList_plain hgd fun K hK => ?_
  obtain ⟨v', w', hr, h2, h3, h4⟩ := run_append_string_at (P := P) w t u o.type e i ht hu hi hz hsize hby v n xs hown s hbytes
  unfold Oper.wp execOp
  simp only [ho, resolve, invoke, builtin, Sem.run_bind, Sem.run_pure, Result.andThen_ok, List.map_toArray, List.map_cons, List.map_nil, hs, hx, hr]
  obtain ⟨A, c, rfl⟩ := own_slice h2
  exact hK _ _ (h A c w' h2 h3 h4)

theorem far_cellN {w w1 : World} {g j n : Nat} {u : Value} {row : Option Nat} (hgrow : (w.drewN n).grownBy w1 row) (ag : some g ≠ row) (lg : g < w.heap.size) (d : w.cell? ⟨g, j, none⟩ = some u) : w1.cell? ⟨g, j, none⟩ = some u :=
  (hgrow.cell_far ⟨g, j, none⟩ lg ag).trans d
theorem far_frzN {w w1 : World} {g j n : Nat} {row : Option Nat} (hgrow : (w.drewN n).grownBy w1 row) (ag : some g ≠ row) (lg : g < w.heap.size) (d : w.frozen? ⟨g, j, none⟩ = false) : w1.frozen? ⟨g, j, none⟩ = false :=
  (hgrow.frozen_far ⟨g, j, none⟩ lg ag).trans d
theorem app_made2 {w w1 : World} {S : Nat → Prop} {g n : Nat} {v v' : Value} {b : BS} {ys : List Int} (hg : w.heap[g]? = some (.cells #[v, .int .i64 b.lim, .int .i64 b.err] 123 (0, 0)))
    (hv : w.ownsRow 0 5 1 v b.l.length (b.l.map (Value.int .u8))) (sg : S g) (sr : ∀ k, v.ownBlock = some k → S k) (hS : ∀ k, w.heap.size ≤ k → S k) (hl : ((b.l ++ ys).length : Int) ≤ b.lim) (hm : b.lim ≤ 1048576)
    (hn : n = (b.l ++ ys).length) (hown1 : w1.ownsRow 0 5 1 v' n ((b.l ++ ys).map (Value.int .u8)))
    (hgrow : w.grownBy w1 v.ownBlock) (hat : ∀ k, v'.ownBlock = some k → v.ownBlock = some k ∨ w.heap.size ≤ k) :
    Buf (w1.setCell ⟨g, 0, none⟩ v') S g { b with l := b.l ++ ys } ∧ Frm S w (w1.setCell ⟨g, 0, none⟩ v') := by
  subst hn
  have ag := nine hg hv
  have lg := blk_lt hg
  have hb1 : w1.heap[g]? = some (.cells #[v, .int .i64 b.lim, .int .i64 b.err] 123 (0, 0)) := (hgrow.block g lg ag).trans hg
  have hF1 : Frm S w w1 := Frm.of_grown (S := S) hgrow (fun k hk => sr k hk)
  have hne : v'.ownBlock ≠ some g := by
    intro e
    rcases hat g e with h | h
    · exact ag h.symm
    · omega
  refine ⟨⟨v', by simpa using blk_set hb1 0 v', ?_, sg, ?_, hl, hm⟩, hF1.setCell (.inl sg) _⟩
  · exact ((Frm.refl (fun k => k = g) w1).setCell (p := ⟨g, 0, none⟩) (.inl rfl) v').row hown1 (by rintro k e rfl; exact hne e)
  · intro k e
    rcases hat k e with h | h
    · exact sr _ h
    · exact hS _ h

set_option maxHeartbeats 4000000 in
set_option maxRecDepth 100000 in
theorem text_calls (w : World) (S : Nat → Prop) (g : Nat) (b : BS) (s : ByteArray) (h : Buf w S g b) (hS : ∀ k, w.heap.size ≤ k → S k) : Calls Try.prog 62 #[.pointer (some ⟨g, 0, none⟩), .string s] w fun e w' =>
    e = .returned (.tuple #[]) ∧ Buf w' S g (b.text s) ∧ Frm S w w' := by
  have HH := Aside0.mk h
  obtain ⟨v0, hg, hr, sg, sr, hl, hm⟩ := h
  have c2 : w.cell? ⟨g, 2, none⟩ = some (.int .i64 b.err) := blk_cell hg 2
  have c1 : w.cell? ⟨g, 1, none⟩ = some (.int .i64 b.lim) := blk_cell hg 1
  have c0 : w.cell? ⟨g, 0, none⟩ = some v0 := blk_cell hg 0
  have f2 : w.frozen? ⟨g, 2, none⟩ = false := blk_frozen hg 2
  obtain ⟨A, cp, hv0⟩ : ∃ A cp, v0 = .slice A b.l.length cp := by
    rcases hr.2 with ⟨rfl, h0⟩ | ⟨b', cap, cur, rfl, _⟩
    · exact ⟨_, _, by rw [h0]⟩
    · exact ⟨_, _, rfl⟩
  by_cases he : b.err = 0
  · have heb : (b.err != 0) = false := by simpa using he
    have hlim0 : (0 : Int) ≤ b.lim - b.l.length := by omega
    have hlim1 : b.lim - (b.l.length : Int) ≤ 1048576 := by omega
    by_cases hroom : b.lim - (b.l.length : Int) < s.size
    · have hroomb : decide (b.lim - (b.l.length : Int) < s.size) = true := decide_eq_true hroom
      have hfin : b.text s = { b with err := 22 } := by unfold BS.text; rw [if_neg (by omega), if_pos hroom]
      have hres := err_set HH.out 22
      rw [hfin]
      have HR := Aside0.mk hres
      subst hv0
      clear hres hfin hl hm hr hg sr he
      go_enter Try.func62, Try.ntmps62
      go_wp2
      go_quiet (fail)
      go_wp2
      refine bodyPost_ret (results_none rfl _ _ _) rfl ?_
      exact ⟨rfl, HR.out.1, HR.out.2.drewN nq⟩
    · have hroomb : decide (b.lim - (b.l.length : Int) < s.size) = false := decide_eq_false hroom
      have hfin : b.text s = { b with l := b.l ++ bytesOf s } := by unfold BS.text; rw [if_neg (by omega), if_neg (by exact hroom)]
      rw [hfin]
      obtain ⟨i0, hi0, hz0, hz1, hz2⟩ := info_parts Try.infoB
      have lg := blk_lt hg
      have ag := nine hg hr
      have f0 : w.frozen? ⟨g, 0, none⟩ = false := blk_frozen hg 0
      have hsz : b.l.length + s.size ≤ 140737488355328 := by omega
      have hfit : ((b.l ++ bytesOf s).length : Int) ≤ b.lim := by rw [List.length_append, bytesOf_length]; omega
      have hnn : b.l.length + s.size = (b.l ++ bytesOf s).length := by rw [List.length_append, bytesOf_length]
      have HN := Aside0.mk hnn
      have HF := Aside0.mk hfit
      have HG := Aside0.mk hg
      have HV := Aside0.mk hr
      have HV0 := Aside0.mk hv0
      clear hfin hnn hfit hl hg hr he
      have hrn : ∀ n, (w.drewN n).ownsRow 0 5 1 v0 b.l.length (b.l.map (Value.int .u8)) := fun _ => HV.out
      subst hv0
      have HRN := Aside0.mk hrn
      clear hrn
      go_enter Try.func62, Try.ntmps62
      go_wp2
      go_quiet (fail)
      go_wp2_with (at_builtin; refine wpList_append_string_at (by rfl) _ _ _ _ (by rfl) 5 i0 Try.underlying25 Try.underlying9 hi0 hz0 hz1 hz2 (.slice A b.l.length cp) b.l.length (b.l.map (Value.int .u8)) ?a1 (HRN.out nq) s ?a2 hsz ?a3; (case a1 => rfl); (case a2 => rfl); intro A1 cp1 w1 hown1 hgrow hat; have q1 := far_cellN hgrow ag lg c0; have q2 := far_frzN hgrow ag lg f0)
      go_end0
      have hA := app_made2 (w := w.drewN nq) (ys := bytesOf s) HG.out (HRN.out nq) sg sr hS HF.out hm HN.out (by rw [List.map_append, ← strCells_bytes]; exact hown1) hgrow hat
      exact ⟨rfl, hA.1, ((Frm.refl S w).drewN nq).trans hA.2 (fun k hk => .inl hk)⟩
  · have heb : (b.err != 0) = true := by simpa using he
    have hfin := BS.text_err he s
    rw [hfin]
    clear hfin hl hm hr hg sr
    go_enter Try.func62, Try.ntmps62
    go_wp2
    refine bodyPost_ret (results_none rfl _ _ _) rfl ?_
    exact ⟨rfl, HH.out, Frm.refl _ _⟩
end Go.Proofs.Ytkmnhlhpmfkloaa.Fld
