/- What the calls Put.. of record do: chains of calls on one buffer, walked by hand. -/
import Derived.Test.YtkmnhlhpmfkloaaFldB
namespace Go.Proofs.Ytkmnhlhpmfkloaa.Fld
open Go.RowKit Go.Proofs.YtkmnhlhpmfkloaaW.PrintWords Go.Proofs.YtkmnhlhpmfkloaaW.PrintLast Go.Proofs.YtkmnhlhpmfkloaaW.PrintMore Go.Proofs.Ytkmnhlhpmfkloaa.Mem
set_option linter.unusedVariables false
set_option linter.unusedSimpArgs false

theorem Buf.sub {w : World} {S S1 : Nat → Prop} {g : Nat} {b : BS} (h : Buf w S g b) (hs : ∀ k, S k → k < w.heap.size → S1 k) : Buf w S1 g b := by
  obtain ⟨v, hg, hr, sg, sr, h1, h2⟩ := h
  exact ⟨v, hg, hr, hs g sg (blk_lt hg), fun k hk => hs k (sr k hk) (own_lt hr k hk), h1, h2⟩
theorem Frm.chain {S : Nat → Prop} {w w1 w2 : World} (h : Frm S w w1) (h2 : Frm S w1 w2) : Frm S w w2 := h.trans h2 (fun k hk => .inl hk)
theorem Frm.big {S : Nat → Prop} {w w1 : World} {B : Nat} (h : Frm S w w1) (hB : B ≤ w.heap.size) (hS : ∀ k, B ≤ k → S k) : ∀ k, w1.heap.size ≤ k → S k := fun k hk => hS k (Nat.le_trans hB (Nat.le_trans h.size hk))

def sharedB (b : BS) (a0 : Int) (a1 : Int) (a2 : Int) (a3 : Int) (a4 : Int) (a5 : Int) (a6 : Int) (a7 : Int) (a8 : ByteArray) (a9 : ByteArray) : BS := (((((((((b.num a0 2).num a1 2).num a2 2).num a3 2).num a4 2).num (wrap64 a5) 4).num a6 4).num a7 4).num a8.size 2).num a9.size 2
def localB (a0 : Int) (a1 : Int) (a2 : Int) (a3 : Int) (a4 : Int) (a5 : Int) (a6 : Int) (a7 : Int) (a8 : ByteArray) (a9 : ByteArray) : BS := (((sharedB ((⟨[], 131100, 0⟩ : BS).num 67324752 4) a0 a1 a2 a3 a4 a5 a6 a7 a8 a9).text a8).text a9)
def centralB (a0 : Int) (a1 : Int) (a2 : Int) (a3 : Int) (a4 : Int) (a5 : Int) (a6 : Int) (a7 : Int) (a8 : ByteArray) (a9 : ByteArray) (a10 : Int) (a11 : Int) (a12 : Int) (a13 : Int) (a14 : Int) (a15 : ByteArray) : BS := (((((((((sharedB (((⟨[], 196651, 0⟩ : BS).num 33639248 4).num a10 2) a0 a1 a2 a3 a4 a5 a6 a7 a8 a9).num a15.size 2).num a11 2).num a12 2).num a13 4).num a14 4).text a8).text a9).text a15)
def endB (a0 : Int) (a1 : Int) (a2 : Int) (a3 : Int) (a4 : Int) (a5 : Int) (a6 : ByteArray) : BS := (((((((((⟨[], 65557, 0⟩ : BS).num 101010256 4).num a0 2).num a1 2).num a2 2).num a3 2).num a4 4).num a5 4).num a6.size 2).text a6
def descB (a0 : Int) (a1 : Int) (a2 : Int) (a3 : Int) (a4 : Int) (a5 : Int) (a6 : Int) (a7 : Int) (a8 : ByteArray) (a9 : ByteArray) (a10 : Bool) : BS := ((((if a10 then (⟨[], 16, 0⟩ : BS).num 134695760 4 else (⟨[], 16, 0⟩ : BS)).num (wrap64 a5) 4).num a6 4).num a7 4)

theorem Buf.mono {w : World} {S S1 : Nat → Prop} {g : Nat} {b : BS} (h : Buf w S g b) (hs : ∀ k, S k → S1 k) : Buf w S1 g b := h.sub (fun k hk _ => hs k hk)
theorem box_start {w : World} {S0 : Nat → Prop} {g : Nat} {b : BS} (h : Buf w S0 g b) (hS0 : ∀ k, w.heap.size ≤ k → S0 k) (o : Obj) :
    Buf (w.alloc o) (fun k => S0 k ∧ k ≠ w.heap.size) g b ∧ (∀ q, (w.alloc o).heap.size ≤ q → S0 q ∧ q ≠ w.heap.size) := by
  refine ⟨Buf.frm (Buf.sub h (fun k hk hlt => ⟨hk, by omega⟩)) ((Frm.refl (fun _ => False) w).alloc _) (fun _ _ _ hh => hh), fun q hq => ?_⟩
  have : (w.alloc o).heap.size = w.heap.size + 1 := by simp
  exact ⟨hS0 q (by omega), by omega⟩
theorem box_end {w w1 : World} {S0 : Nat → Prop} {bx : Nat} {o : Obj} (h : Frm (fun k => S0 k ∧ k ≠ bx) (w.alloc o) w1) : Frm S0 w w1 :=
  ((Frm.refl S0 w).alloc o).trans h (fun k hk => .inl hk.1)
set_option maxHeartbeats 16000000 in
set_option maxRecDepth 100000 in
theorem putShared_calls (w : World) (S0 : Nat → Prop) (g : Nat) (b : BS) (a0 : Int) (a1 : Int) (a2 : Int) (a3 : Int) (a4 : Int) (a5 : Int) (a6 : Int) (a7 : Int) (a8 : ByteArray) (a9 : ByteArray) (h : Buf w S0 g b) (hS0 : ∀ k, w.heap.size ≤ k → S0 k) : Calls Try.prog 70 #[.pointer (some ⟨g, 0, none⟩), .agg #[.int .i64 a0, .int .i64 a1, .int .i64 a2, .int .i64 a3, .int .i64 a4, .int .u32 a5, .int .i64 a6, .int .i64 a7, .string a8, .string a9]] w fun e w' =>
    e = .returned (.tuple #[]) ∧ Buf w' S0 g (sharedB b a0 a1 a2 a3 a4 a5 a6 a7 a8 a9) ∧ Frm S0 w w' := by
  have hst := box_start h hS0 (.cells #[.int .i64 a0, .int .i64 a1, .int .i64 a2, .int .i64 a3, .int .i64 a4, .int .u32 a5, .int .i64 a6, .int .i64 a7, .string a8, .string a9] 24)
  have HEND := Aside0.mk (fun w1 hf => box_end (w := w) (w1 := w1) (S0 := S0) (bx := w.heap.size) (o := .cells #[.int .i64 a0, .int .i64 a1, .int .i64 a2, .int .i64 a3, .int .i64 a4, .int .u32 a5, .int .i64 a6, .int .i64 a7, .string a8, .string a9] 24) hf)
  have hX := blk_new w (.cells #[.int .i64 a0, .int .i64 a1, .int .i64 a2, .int .i64 a3, .int .i64 a4, .int .u32 a5, .int .i64 a6, .int .i64 a7, .string a8, .string a9] 24)
  obtain ⟨S, hSd⟩ : ∃ S : Nat → Prop, S = fun k => S0 k ∧ k ≠ w.heap.size := ⟨_, rfl⟩
  have nbx : ¬ S w.heap.size := by rw [hSd]; exact fun h => h.2 rfl
  have HS2 : Aside0 (∀ k, S k → S0 k) := ⟨by rw [hSd]; exact fun k hk => hk.1⟩
  rw [← hSd] at HEND hst
  have HB := Aside0.mk hst.1
  have HS := Aside0.mk (show ∀ q, (w.alloc (.cells #[.int .i64 a0, .int .i64 a1, .int .i64 a2, .int .i64 a3, .int .i64 a4, .int .u32 a5, .int .i64 a6, .int .i64 a7, .string a8, .string a9] 24)).heap.size ≤ q → S q from fun q hq => by rw [hSd]; exact hst.2 q hq)
  have HX := Aside0.mk hX
  clear hst hX hSd h hS0
  go_enter Try.func70, Try.ntmps70
  go_wp2_with fail
  generalize hw0 : w.alloc (.cells #[.int .i64 a0, .int .i64 a1, .int .i64 a2, .int .i64 a3, .int .i64 a4, .int .u32 a5, .int .i64 a6, .int .i64 a7, .string a8, .string a9] 24) = w0 at HEND HB HS HX ⊢
  generalize w.heap.size = bx at nbx HX ⊢
  clear hw0
  have HB0 := HB; have HX0 := HX; have HG0 := Aside0.mk (Frm.refl S w0); have HS0 := HS
  clear HB HX HS
  have i0 : ∀ w : World, (Instr.index 131 (.agg #[.int .i64 a0, .int .i64 a1, .int .i64 a2, .int .i64 a3, .int .i64 a4]) (.int .i64 0)).run Try.prog w = .ok (.int .i64 a0) w := fun _ => by kernel_rfl
  have i1 : ∀ w : World, (Instr.index 131 (.agg #[.int .i64 a0, .int .i64 a1, .int .i64 a2, .int .i64 a3, .int .i64 a4]) (.int .i64 1)).run Try.prog w = .ok (.int .i64 a1) w := fun _ => by kernel_rfl
  have i2 : ∀ w : World, (Instr.index 131 (.agg #[.int .i64 a0, .int .i64 a1, .int .i64 a2, .int .i64 a3, .int .i64 a4]) (.int .i64 2)).run Try.prog w = .ok (.int .i64 a2) w := fun _ => by kernel_rfl
  have i3 : ∀ w : World, (Instr.index 131 (.agg #[.int .i64 a0, .int .i64 a1, .int .i64 a2, .int .i64 a3, .int .i64 a4]) (.int .i64 3)).run Try.prog w = .ok (.int .i64 a3) w := fun _ => by kernel_rfl
  have i4 : ∀ w : World, (Instr.index 131 (.agg #[.int .i64 a0, .int .i64 a1, .int .i64 a2, .int .i64 a3, .int .i64 a4]) (.int .i64 4)).run Try.prog w = .ok (.int .i64 a4) w := fun _ => by kernel_rfl
  go_wp2_with fail
  go_loopg [17] 6 (fun gk v17 wr => ∃ bk, Aside0 (Buf wr S g bk) ∧ Aside0 (wr.heap[bx]? = some (.cells #[.int .i64 a0, .int .i64 a1, .int .i64 a2, .int .i64 a3, .int .i64 a4, .int .u32 a5, .int .i64 a6, .int .i64 a7, .string a8, .string a9] 24 (0, 0))) ∧ Aside0 (Frm S w0 wr) ∧ Aside0 (∀ q, wr.heap.size ≤ q → S q) ∧ ((v17 = .int .i64 0 ∧ 6 ≤ gk ∧ Aside0 (bk = b)) ∨ (v17 = .int .i64 1 ∧ 5 ≤ gk ∧ Aside0 (bk = (b).num a0 2)) ∨ (v17 = .int .i64 2 ∧ 4 ≤ gk ∧ Aside0 (bk = ((b).num a0 2).num a1 2)) ∨ (v17 = .int .i64 3 ∧ 3 ≤ gk ∧ Aside0 (bk = (((b).num a0 2).num a1 2).num a2 2)) ∨ (v17 = .int .i64 4 ∧ 2 ≤ gk ∧ Aside0 (bk = ((((b).num a0 2).num a1 2).num a2 2).num a3 2)) ∨ (v17 = .int .i64 5 ∧ 1 ≤ gk ∧ Aside0 (bk = (((((b).num a0 2).num a1 2).num a2 2).num a3 2).num a4 2))))
  case atStart => exact ⟨_, HB0, HX0, HG0, HS0, .inl ⟨rfl, by omega, ⟨rfl⟩⟩⟩
  case round =>
    obtain ⟨bk, HBk, HXk, HGk, HSk, hcase⟩ := hrel
    clear HB0 HX0 HG0 HS0
    rcases hcase with ⟨rfl, hgk, HE⟩ | ⟨rfl, hgk, HE⟩ | ⟨rfl, hgk, HE⟩ | ⟨rfl, hgk, HE⟩ | ⟨rfl, hgk, HE⟩ | ⟨rfl, hgk, HE⟩
    · go_wp2_with fail
      refine (u16_calls _ S g _ _ HBk.out HSk.out).mono ?_
      rintro e wn ⟨rfl, hb, hf⟩
      go_wp2_with fail
      go_roundg 5
      case measure => omega
      case rel => exact ⟨_, ⟨hb⟩, ⟨hf.blk HXk.out nbx⟩, ⟨Frm.chain HGk.out hf⟩, ⟨fun q hq => HSk.out q (Nat.le_trans hf.size hq)⟩, .inr (.inl ⟨rfl, by omega, ⟨by rw [HE.out]⟩⟩)⟩
    · go_wp2_with fail
      refine (u16_calls _ S g _ _ HBk.out HSk.out).mono ?_
      rintro e wn ⟨rfl, hb, hf⟩
      go_wp2_with fail
      go_roundg 4
      case measure => omega
      case rel => exact ⟨_, ⟨hb⟩, ⟨hf.blk HXk.out nbx⟩, ⟨Frm.chain HGk.out hf⟩, ⟨fun q hq => HSk.out q (Nat.le_trans hf.size hq)⟩, .inr (.inr (.inl ⟨rfl, by omega, ⟨by rw [HE.out]⟩⟩))⟩
    · go_wp2_with fail
      refine (u16_calls _ S g _ _ HBk.out HSk.out).mono ?_
      rintro e wn ⟨rfl, hb, hf⟩
      go_wp2_with fail
      go_roundg 3
      case measure => omega
      case rel => exact ⟨_, ⟨hb⟩, ⟨hf.blk HXk.out nbx⟩, ⟨Frm.chain HGk.out hf⟩, ⟨fun q hq => HSk.out q (Nat.le_trans hf.size hq)⟩, .inr (.inr (.inr (.inl ⟨rfl, by omega, ⟨by rw [HE.out]⟩⟩)))⟩
    · go_wp2_with fail
      refine (u16_calls _ S g _ _ HBk.out HSk.out).mono ?_
      rintro e wn ⟨rfl, hb, hf⟩
      go_wp2_with fail
      go_roundg 2
      case measure => omega
      case rel => exact ⟨_, ⟨hb⟩, ⟨hf.blk HXk.out nbx⟩, ⟨Frm.chain HGk.out hf⟩, ⟨fun q hq => HSk.out q (Nat.le_trans hf.size hq)⟩, .inr (.inr (.inr (.inr (.inl ⟨rfl, by omega, ⟨by rw [HE.out]⟩⟩))))⟩
    · go_wp2_with fail
      refine (u16_calls _ S g _ _ HBk.out HSk.out).mono ?_
      rintro e wn ⟨rfl, hb, hf⟩
      go_wp2_with fail
      go_roundg 1
      case measure => omega
      case rel => exact ⟨_, ⟨hb⟩, ⟨hf.blk HXk.out nbx⟩, ⟨Frm.chain HGk.out hf⟩, ⟨fun q hq => HSk.out q (Nat.le_trans hf.size hq)⟩, .inr (.inr (.inr (.inr (.inr (⟨rfl, by omega, ⟨by rw [HE.out]⟩⟩)))))⟩
    · clear i0 i1 i2 i3 i4
      have hbk := HBk.out
      rw [HE.out] at hbk
      have HB1 := Aside0.mk hbk
      clear hbk
      have HX1 := HXk
      have HG1 := HGk
      have HS1 := HSk
      clear HBk HXk HGk HSk
      have x5 : wr.cell? ⟨bx, 5, none⟩ = some (.int .u32 a5) := blk_cell HX1.out 5
      go_wp2_with fail
      refine (u32_calls _ S g _ _ HB1.out HS1.out).mono ?_
      rintro e w2 ⟨rfl, hb, hf⟩
      have HB2 := Aside0.mk hb
      have HX2 := Aside0.mk (hf.blk HX1.out nbx)
      have HG2 := Aside0.mk (Frm.chain HG1.out hf)
      have HS2 := Aside0.mk (fun q hq => HS1.out q (Nat.le_trans hf.size hq))
      clear x5
      clear hb hf HB1 HX1 HG1 HS1
      have x6 : w2.cell? ⟨bx, 6, none⟩ = some (.int .i64 a6) := blk_cell HX2.out 6
      go_wp2_with fail
      refine (u32_calls _ S g _ _ HB2.out HS2.out).mono ?_
      rintro e w3 ⟨rfl, hb, hf⟩
      have HB3 := Aside0.mk hb
      have HX3 := Aside0.mk (hf.blk HX2.out nbx)
      have HG3 := Aside0.mk (Frm.chain HG2.out hf)
      have HS3 := Aside0.mk (fun q hq => HS2.out q (Nat.le_trans hf.size hq))
      clear x6
      clear hb hf HB2 HX2 HG2 HS2
      have x7 : w3.cell? ⟨bx, 7, none⟩ = some (.int .i64 a7) := blk_cell HX3.out 7
      go_wp2_with fail
      refine (u32_calls _ S g _ _ HB3.out HS3.out).mono ?_
      rintro e w4 ⟨rfl, hb, hf⟩
      have HB4 := Aside0.mk hb
      have HX4 := Aside0.mk (hf.blk HX3.out nbx)
      have HG4 := Aside0.mk (Frm.chain HG3.out hf)
      have HS4 := Aside0.mk (fun q hq => HS3.out q (Nat.le_trans hf.size hq))
      clear x7
      clear hb hf HB3 HX3 HG3 HS3
      have x8 : w4.cell? ⟨bx, 8, none⟩ = some (.string a8) := blk_cell HX4.out 8
      go_wp2_with fail
      refine (u16_calls _ S g _ _ HB4.out HS4.out).mono ?_
      rintro e w5 ⟨rfl, hb, hf⟩
      have HB5 := Aside0.mk hb
      have HX5 := Aside0.mk (hf.blk HX4.out nbx)
      have HG5 := Aside0.mk (Frm.chain HG4.out hf)
      have HS5 := Aside0.mk (fun q hq => HS4.out q (Nat.le_trans hf.size hq))
      clear x8
      clear hb hf HB4 HX4 HG4 HS4
      have x9 : w5.cell? ⟨bx, 9, none⟩ = some (.string a9) := blk_cell HX5.out 9
      go_wp2_with fail
      refine (u16_calls _ S g _ _ HB5.out HS5.out).mono ?_
      rintro e w6 ⟨rfl, hb, hf⟩
      have HB6 := Aside0.mk hb
      have HX6 := Aside0.mk (hf.blk HX5.out nbx)
      have HG6 := Aside0.mk (Frm.chain HG5.out hf)
      have HS6 := Aside0.mk (fun q hq => HS5.out q (Nat.le_trans hf.size hq))
      clear x9
      clear hb hf HB5 HX5 HG5 HS5
      go_wp2_with fail
      go_end0
      exact ⟨rfl, Buf.mono HB6.out HS2.out, HEND.out _ HG6.out⟩
theorem box_first {w : World} (o : Obj) : (∀ q, (w.alloc o).heap.size ≤ q → w.heap.size < q) ∧ ¬ (w.heap.size < w.heap.size) := by
  have h : (w.alloc o).heap.size = w.heap.size + 1 := by simp
  exact ⟨fun q hq => by omega, Nat.lt_irrefl _⟩
theorem box_last {w w1 w2 : World} {o : Obj} {B : Nat} (hB : w.heap.size = B) (h : Frm (fun k => B < k) (w.alloc o) w1) (h2 : Below w1.heap.size w1 w2) : Below B w w2 := by
  subst hB
  have hs : w.heap.size ≤ (w.alloc o).heap.size := by simp
  have h1 : Below w.heap.size w w1 := (below_alloc (Below.refl _ w) o).trans (h.to_below hs (fun k hk => Nat.le_of_lt hk))
  exact h1.trans (h2.mono (Nat.le_trans hs h.size))
theorem R_low {α : Type} {d : Kd α} {e : Nat} {w1 : World} {base B : Nat} {v : Value} {xs : List α} (h : d.R e w1 base (fun _ => True) v xs) (hb : B ≤ base) : d.R e w1 B (fun _ => True) v xs := Kd.R_lower h hb
set_option maxHeartbeats 16000000 in
set_option maxRecDepth 100000 in
theorem putLocal_calls (w : World) (a0 : Int) (a1 : Int) (a2 : Int) (a3 : Int) (a4 : Int) (a5 : Int) (a6 : Int) (a7 : Int) (a8 : ByteArray) (a9 : ByteArray) : Calls Try.prog 33 #[.agg #[.int .i64 a0, .int .i64 a1, .int .i64 a2, .int .i64 a3, .int .i64 a4, .int .u32 a5, .int .i64 a6, .int .i64 a7, .string a8, .string a9]] w fun e w' =>
    ∃ v, e = .returned (.tuple #[v, .int .i64 (localB a0 a1 a2 a3 a4 a5 a6 a7 a8 a9).ans.2]) ∧ Kd.R (Kd.int .u8) 5 w' w.heap.size (fun _ => True) v (localB a0 a1 a2 a3 a4 a5 a6 a7 a8 a9).ans.1 ∧ Below w.heap.size w w' := by
  have hst := box_first (w := w) (.cells #[.int .i64 a0, .int .i64 a1, .int .i64 a2, .int .i64 a3, .int .i64 a4, .int .u32 a5, .int .i64 a6, .int .i64 a7, .string a8, .string a9] 24)
  have hX := blk_new w (.cells #[.int .i64 a0, .int .i64 a1, .int .i64 a2, .int .i64 a3, .int .i64 a4, .int .u32 a5, .int .i64 a6, .int .i64 a7, .string a8, .string a9] 24)
  have hend : ∀ w1 w2 : World, Frm (fun k => w.heap.size < k) (w.alloc (.cells #[.int .i64 a0, .int .i64 a1, .int .i64 a2, .int .i64 a3, .int .i64 a4, .int .u32 a5, .int .i64 a6, .int .i64 a7, .string a8, .string a9] 24)) w1 → Below w1.heap.size w1 w2 → Below w.heap.size w w2 := fun w1 w2 => box_last rfl
  have hle : w.heap.size ≤ (w.alloc (.cells #[.int .i64 a0, .int .i64 a1, .int .i64 a2, .int .i64 a3, .int .i64 a4, .int .u32 a5, .int .i64 a6, .int .i64 a7, .string a8, .string a9] 24)).heap.size := by simp
  obtain ⟨S, hSd⟩ : ∃ S : Nat → Prop, S = fun k => w.heap.size < k := ⟨_, rfl⟩
  have nbx : ¬ S w.heap.size := by rw [hSd]; exact hst.2
  rw [← hSd] at hend
  have HS := Aside0.mk (show ∀ q, (w.alloc (.cells #[.int .i64 a0, .int .i64 a1, .int .i64 a2, .int .i64 a3, .int .i64 a4, .int .u32 a5, .int .i64 a6, .int .i64 a7, .string a8, .string a9] 24)).heap.size ≤ q → S q from fun q hq => by rw [hSd]; exact hst.1 q hq)
  have HX := Aside0.mk hX
  have HEND := Aside0.mk hend
  have HLE := Aside0.mk hle
  clear hst hX hend hSd hle
  go_enter Try.func33, Try.ntmps33
  go_wp2_with fail
  generalize w.alloc (.cells #[.int .i64 a0, .int .i64 a1, .int .i64 a2, .int .i64 a3, .int .i64 a4, .int .u32 a5, .int .i64 a6, .int .i64 a7, .string a8, .string a9] 24) = w0 at HEND HS HX HLE ⊢
  generalize hbxe : w.heap.size = bx at nbx HX HEND HLE ⊢
  have HBX := Aside0.mk hbxe
  clear hbxe
  refine (new_calls w0 S 131100 (by omega) (by omega) HS.out).mono ?_
  rintro e w1 ⟨g, rfl, hb, hbel⟩
  have hf := Frm.of_below hbel S
  have HB1 := Aside0.mk hb; have HX1 := Aside0.mk (hf.blk HX.out nbx); have HG1 := Aside0.mk hf; have HS1 := Aside0.mk (fun q hq => HS.out q (Nat.le_trans hf.size hq))
  clear hb hbel hf HX HS
  go_wp2_with fail
  refine (u32_calls _ S g _ _ HB1.out HS1.out).mono ?_
  rintro e w2 ⟨rfl, hb, hf⟩
  have HB2 := Aside0.mk hb
  have HX2 := Aside0.mk (hf.blk HX1.out nbx)
  have HG2 := Aside0.mk (Frm.chain HG1.out hf)
  have HS2 := Aside0.mk (fun q hq => HS1.out q (Nat.le_trans hf.size hq))
  clear hb hf HB1 HX1 HG1 HS1
  have x0 : w2.cell? ⟨bx, 0, none⟩ = some (.int .i64 a0) := blk_cell HX2.out 0
  have x1 : w2.cell? ⟨bx, 1, none⟩ = some (.int .i64 a1) := blk_cell HX2.out 1
  have x2 : w2.cell? ⟨bx, 2, none⟩ = some (.int .i64 a2) := blk_cell HX2.out 2
  have x3 : w2.cell? ⟨bx, 3, none⟩ = some (.int .i64 a3) := blk_cell HX2.out 3
  have x4 : w2.cell? ⟨bx, 4, none⟩ = some (.int .i64 a4) := blk_cell HX2.out 4
  have x5 : w2.cell? ⟨bx, 5, none⟩ = some (.int .u32 a5) := blk_cell HX2.out 5
  have x6 : w2.cell? ⟨bx, 6, none⟩ = some (.int .i64 a6) := blk_cell HX2.out 6
  have x7 : w2.cell? ⟨bx, 7, none⟩ = some (.int .i64 a7) := blk_cell HX2.out 7
  have x8 : w2.cell? ⟨bx, 8, none⟩ = some (.string a8) := blk_cell HX2.out 8
  have x9 : w2.cell? ⟨bx, 9, none⟩ = some (.string a9) := blk_cell HX2.out 9
  go_wp2_with fail
  refine (putShared_calls _ S g _ _ _ _ _ _ _ _ _ _ _ HB2.out HS2.out).mono ?_
  rintro e w3 ⟨rfl, hb, hf⟩
  have HB3 := Aside0.mk hb
  have HX3 := Aside0.mk (hf.blk HX2.out nbx)
  have HG3 := Aside0.mk (Frm.chain HG2.out hf)
  have HS3 := Aside0.mk (fun q hq => HS2.out q (Nat.le_trans hf.size hq))
  clear x0 x1 x2 x3 x4 x5 x6 x7 x8 x9
  clear hb hf HB2 HX2 HG2 HS2
  have x8 : w3.cell? ⟨bx, 8, none⟩ = some (.string a8) := blk_cell HX3.out 8
  go_wp2_with fail
  refine (text_calls _ S g _ _ HB3.out HS3.out).mono ?_
  rintro e w4 ⟨rfl, hb, hf⟩
  have HB4 := Aside0.mk hb
  have HX4 := Aside0.mk (hf.blk HX3.out nbx)
  have HG4 := Aside0.mk (Frm.chain HG3.out hf)
  have HS4 := Aside0.mk (fun q hq => HS3.out q (Nat.le_trans hf.size hq))
  clear x8
  clear hb hf HB3 HX3 HG3 HS3
  have x9 : w4.cell? ⟨bx, 9, none⟩ = some (.string a9) := blk_cell HX4.out 9
  go_wp2_with fail
  refine (text_calls _ S g _ _ HB4.out HS4.out).mono ?_
  rintro e w5 ⟨rfl, hb, hf⟩
  have HB5 := Aside0.mk hb
  have HX5 := Aside0.mk (hf.blk HX4.out nbx)
  have HG5 := Aside0.mk (Frm.chain HG4.out hf)
  have HS5 := Aside0.mk (fun q hq => HS4.out q (Nat.le_trans hf.size hq))
  clear x9
  clear hb hf HB4 HX4 HG4 HS4
  go_wp2_with fail
  refine (taken_calls _ S g _ HB5.out).mono ?_
  rintro e wz ⟨vz, rfl, hR, hBz⟩
  go_wp2_with fail
  go_ret2
  exact ⟨vz, rfl, by rw [HBX.out]; exact R_low hR (Nat.le_trans HLE.out HG5.out.size), by rw [HBX.out]; exact HEND.out _ _ HG5.out hBz⟩
set_option maxHeartbeats 16000000 in
set_option maxRecDepth 100000 in
theorem putCentral_calls (w : World) (a0 : Int) (a1 : Int) (a2 : Int) (a3 : Int) (a4 : Int) (a5 : Int) (a6 : Int) (a7 : Int) (a8 : ByteArray) (a9 : ByteArray) (a10 : Int) (a11 : Int) (a12 : Int) (a13 : Int) (a14 : Int) (a15 : ByteArray) : Calls Try.prog 37 #[.agg #[.int .i64 a0, .int .i64 a1, .int .i64 a2, .int .i64 a3, .int .i64 a4, .int .u32 a5, .int .i64 a6, .int .i64 a7, .string a8, .string a9, .int .i64 a10, .int .i64 a11, .int .i64 a12, .int .i64 a13, .int .i64 a14, .string a15]] w fun e w' =>
    ∃ v, e = .returned (.tuple #[v, .int .i64 (centralB a0 a1 a2 a3 a4 a5 a6 a7 a8 a9 a10 a11 a12 a13 a14 a15).ans.2]) ∧ Kd.R (Kd.int .u8) 5 w' w.heap.size (fun _ => True) v (centralB a0 a1 a2 a3 a4 a5 a6 a7 a8 a9 a10 a11 a12 a13 a14 a15).ans.1 ∧ Below w.heap.size w w' := by
  have hst := box_first (w := w) (.cells #[.int .i64 a0, .int .i64 a1, .int .i64 a2, .int .i64 a3, .int .i64 a4, .int .u32 a5, .int .i64 a6, .int .i64 a7, .string a8, .string a9, .int .i64 a10, .int .i64 a11, .int .i64 a12, .int .i64 a13, .int .i64 a14, .string a15] 73)
  have hX := blk_new w (.cells #[.int .i64 a0, .int .i64 a1, .int .i64 a2, .int .i64 a3, .int .i64 a4, .int .u32 a5, .int .i64 a6, .int .i64 a7, .string a8, .string a9, .int .i64 a10, .int .i64 a11, .int .i64 a12, .int .i64 a13, .int .i64 a14, .string a15] 73)
  have hend : ∀ w1 w2 : World, Frm (fun k => w.heap.size < k) (w.alloc (.cells #[.int .i64 a0, .int .i64 a1, .int .i64 a2, .int .i64 a3, .int .i64 a4, .int .u32 a5, .int .i64 a6, .int .i64 a7, .string a8, .string a9, .int .i64 a10, .int .i64 a11, .int .i64 a12, .int .i64 a13, .int .i64 a14, .string a15] 73)) w1 → Below w1.heap.size w1 w2 → Below w.heap.size w w2 := fun w1 w2 => box_last rfl
  have hle : w.heap.size ≤ (w.alloc (.cells #[.int .i64 a0, .int .i64 a1, .int .i64 a2, .int .i64 a3, .int .i64 a4, .int .u32 a5, .int .i64 a6, .int .i64 a7, .string a8, .string a9, .int .i64 a10, .int .i64 a11, .int .i64 a12, .int .i64 a13, .int .i64 a14, .string a15] 73)).heap.size := by simp
  obtain ⟨S, hSd⟩ : ∃ S : Nat → Prop, S = fun k => w.heap.size < k := ⟨_, rfl⟩
  have nbx : ¬ S w.heap.size := by rw [hSd]; exact hst.2
  rw [← hSd] at hend
  have HS := Aside0.mk (show ∀ q, (w.alloc (.cells #[.int .i64 a0, .int .i64 a1, .int .i64 a2, .int .i64 a3, .int .i64 a4, .int .u32 a5, .int .i64 a6, .int .i64 a7, .string a8, .string a9, .int .i64 a10, .int .i64 a11, .int .i64 a12, .int .i64 a13, .int .i64 a14, .string a15] 73)).heap.size ≤ q → S q from fun q hq => by rw [hSd]; exact hst.1 q hq)
  have HX := Aside0.mk hX
  have HEND := Aside0.mk hend
  have HLE := Aside0.mk hle
  clear hst hX hend hSd hle
  go_enter Try.func37, Try.ntmps37
  go_wp2_with fail
  generalize w.alloc (.cells #[.int .i64 a0, .int .i64 a1, .int .i64 a2, .int .i64 a3, .int .i64 a4, .int .u32 a5, .int .i64 a6, .int .i64 a7, .string a8, .string a9, .int .i64 a10, .int .i64 a11, .int .i64 a12, .int .i64 a13, .int .i64 a14, .string a15] 73) = w0 at HEND HS HX HLE ⊢
  generalize hbxe : w.heap.size = bx at nbx HX HEND HLE ⊢
  have HBX := Aside0.mk hbxe
  clear hbxe
  refine (new_calls w0 S 196651 (by omega) (by omega) HS.out).mono ?_
  rintro e w1 ⟨g, rfl, hb, hbel⟩
  have hf := Frm.of_below hbel S
  have HB1 := Aside0.mk hb; have HX1 := Aside0.mk (hf.blk HX.out nbx); have HG1 := Aside0.mk hf; have HS1 := Aside0.mk (fun q hq => HS.out q (Nat.le_trans hf.size hq))
  clear hb hbel hf HX HS
  go_wp2_with fail
  refine (u32_calls _ S g _ _ HB1.out HS1.out).mono ?_
  rintro e w2 ⟨rfl, hb, hf⟩
  have HB2 := Aside0.mk hb
  have HX2 := Aside0.mk (hf.blk HX1.out nbx)
  have HG2 := Aside0.mk (Frm.chain HG1.out hf)
  have HS2 := Aside0.mk (fun q hq => HS1.out q (Nat.le_trans hf.size hq))
  clear hb hf HB1 HX1 HG1 HS1
  have x10 : w2.cell? ⟨bx, 10, none⟩ = some (.int .i64 a10) := blk_cell HX2.out 10
  go_wp2_with fail
  refine (u16_calls _ S g _ _ HB2.out HS2.out).mono ?_
  rintro e w3 ⟨rfl, hb, hf⟩
  have HB3 := Aside0.mk hb
  have HX3 := Aside0.mk (hf.blk HX2.out nbx)
  have HG3 := Aside0.mk (Frm.chain HG2.out hf)
  have HS3 := Aside0.mk (fun q hq => HS2.out q (Nat.le_trans hf.size hq))
  clear x10
  clear hb hf HB2 HX2 HG2 HS2
  have x0 : w3.cell? ⟨bx, 0, none⟩ = some (.int .i64 a0) := blk_cell HX3.out 0
  have x1 : w3.cell? ⟨bx, 1, none⟩ = some (.int .i64 a1) := blk_cell HX3.out 1
  have x2 : w3.cell? ⟨bx, 2, none⟩ = some (.int .i64 a2) := blk_cell HX3.out 2
  have x3 : w3.cell? ⟨bx, 3, none⟩ = some (.int .i64 a3) := blk_cell HX3.out 3
  have x4 : w3.cell? ⟨bx, 4, none⟩ = some (.int .i64 a4) := blk_cell HX3.out 4
  have x5 : w3.cell? ⟨bx, 5, none⟩ = some (.int .u32 a5) := blk_cell HX3.out 5
  have x6 : w3.cell? ⟨bx, 6, none⟩ = some (.int .i64 a6) := blk_cell HX3.out 6
  have x7 : w3.cell? ⟨bx, 7, none⟩ = some (.int .i64 a7) := blk_cell HX3.out 7
  have x8 : w3.cell? ⟨bx, 8, none⟩ = some (.string a8) := blk_cell HX3.out 8
  have x9 : w3.cell? ⟨bx, 9, none⟩ = some (.string a9) := blk_cell HX3.out 9
  go_wp2_with fail
  refine (putShared_calls _ S g _ _ _ _ _ _ _ _ _ _ _ HB3.out HS3.out).mono ?_
  rintro e w4 ⟨rfl, hb, hf⟩
  have HB4 := Aside0.mk hb
  have HX4 := Aside0.mk (hf.blk HX3.out nbx)
  have HG4 := Aside0.mk (Frm.chain HG3.out hf)
  have HS4 := Aside0.mk (fun q hq => HS3.out q (Nat.le_trans hf.size hq))
  clear x0 x1 x2 x3 x4 x5 x6 x7 x8 x9
  clear hb hf HB3 HX3 HG3 HS3
  have x15 : w4.cell? ⟨bx, 15, none⟩ = some (.string a15) := blk_cell HX4.out 15
  go_wp2_with fail
  refine (u16_calls _ S g _ _ HB4.out HS4.out).mono ?_
  rintro e w5 ⟨rfl, hb, hf⟩
  have HB5 := Aside0.mk hb
  have HX5 := Aside0.mk (hf.blk HX4.out nbx)
  have HG5 := Aside0.mk (Frm.chain HG4.out hf)
  have HS5 := Aside0.mk (fun q hq => HS4.out q (Nat.le_trans hf.size hq))
  clear x15
  clear hb hf HB4 HX4 HG4 HS4
  have x11 : w5.cell? ⟨bx, 11, none⟩ = some (.int .i64 a11) := blk_cell HX5.out 11
  go_wp2_with fail
  refine (u16_calls _ S g _ _ HB5.out HS5.out).mono ?_
  rintro e w6 ⟨rfl, hb, hf⟩
  have HB6 := Aside0.mk hb
  have HX6 := Aside0.mk (hf.blk HX5.out nbx)
  have HG6 := Aside0.mk (Frm.chain HG5.out hf)
  have HS6 := Aside0.mk (fun q hq => HS5.out q (Nat.le_trans hf.size hq))
  clear x11
  clear hb hf HB5 HX5 HG5 HS5
  have x12 : w6.cell? ⟨bx, 12, none⟩ = some (.int .i64 a12) := blk_cell HX6.out 12
  go_wp2_with fail
  refine (u16_calls _ S g _ _ HB6.out HS6.out).mono ?_
  rintro e w7 ⟨rfl, hb, hf⟩
  have HB7 := Aside0.mk hb
  have HX7 := Aside0.mk (hf.blk HX6.out nbx)
  have HG7 := Aside0.mk (Frm.chain HG6.out hf)
  have HS7 := Aside0.mk (fun q hq => HS6.out q (Nat.le_trans hf.size hq))
  clear x12
  clear hb hf HB6 HX6 HG6 HS6
  have x13 : w7.cell? ⟨bx, 13, none⟩ = some (.int .i64 a13) := blk_cell HX7.out 13
  go_wp2_with fail
  refine (u32_calls _ S g _ _ HB7.out HS7.out).mono ?_
  rintro e w8 ⟨rfl, hb, hf⟩
  have HB8 := Aside0.mk hb
  have HX8 := Aside0.mk (hf.blk HX7.out nbx)
  have HG8 := Aside0.mk (Frm.chain HG7.out hf)
  have HS8 := Aside0.mk (fun q hq => HS7.out q (Nat.le_trans hf.size hq))
  clear x13
  clear hb hf HB7 HX7 HG7 HS7
  have x14 : w8.cell? ⟨bx, 14, none⟩ = some (.int .i64 a14) := blk_cell HX8.out 14
  go_wp2_with fail
  refine (u32_calls _ S g _ _ HB8.out HS8.out).mono ?_
  rintro e w9 ⟨rfl, hb, hf⟩
  have HB9 := Aside0.mk hb
  have HX9 := Aside0.mk (hf.blk HX8.out nbx)
  have HG9 := Aside0.mk (Frm.chain HG8.out hf)
  have HS9 := Aside0.mk (fun q hq => HS8.out q (Nat.le_trans hf.size hq))
  clear x14
  clear hb hf HB8 HX8 HG8 HS8
  have x8 : w9.cell? ⟨bx, 8, none⟩ = some (.string a8) := blk_cell HX9.out 8
  go_wp2_with fail
  refine (text_calls _ S g _ _ HB9.out HS9.out).mono ?_
  rintro e w10 ⟨rfl, hb, hf⟩
  have HB10 := Aside0.mk hb
  have HX10 := Aside0.mk (hf.blk HX9.out nbx)
  have HG10 := Aside0.mk (Frm.chain HG9.out hf)
  have HS10 := Aside0.mk (fun q hq => HS9.out q (Nat.le_trans hf.size hq))
  clear x8
  clear hb hf HB9 HX9 HG9 HS9
  have x9 : w10.cell? ⟨bx, 9, none⟩ = some (.string a9) := blk_cell HX10.out 9
  go_wp2_with fail
  refine (text_calls _ S g _ _ HB10.out HS10.out).mono ?_
  rintro e w11 ⟨rfl, hb, hf⟩
  have HB11 := Aside0.mk hb
  have HX11 := Aside0.mk (hf.blk HX10.out nbx)
  have HG11 := Aside0.mk (Frm.chain HG10.out hf)
  have HS11 := Aside0.mk (fun q hq => HS10.out q (Nat.le_trans hf.size hq))
  clear x9
  clear hb hf HB10 HX10 HG10 HS10
  have x15 : w11.cell? ⟨bx, 15, none⟩ = some (.string a15) := blk_cell HX11.out 15
  go_wp2_with fail
  refine (text_calls _ S g _ _ HB11.out HS11.out).mono ?_
  rintro e w12 ⟨rfl, hb, hf⟩
  have HB12 := Aside0.mk hb
  have HX12 := Aside0.mk (hf.blk HX11.out nbx)
  have HG12 := Aside0.mk (Frm.chain HG11.out hf)
  have HS12 := Aside0.mk (fun q hq => HS11.out q (Nat.le_trans hf.size hq))
  clear x15
  clear hb hf HB11 HX11 HG11 HS11
  go_wp2_with fail
  refine (taken_calls _ S g _ HB12.out).mono ?_
  rintro e wz ⟨vz, rfl, hR, hBz⟩
  go_wp2_with fail
  go_ret2
  exact ⟨vz, rfl, by rw [HBX.out]; exact R_low hR (Nat.le_trans HLE.out HG12.out.size), by rw [HBX.out]; exact HEND.out _ _ HG12.out hBz⟩
set_option maxHeartbeats 16000000 in
set_option maxRecDepth 100000 in
theorem putEnd_calls (w : World) (a0 : Int) (a1 : Int) (a2 : Int) (a3 : Int) (a4 : Int) (a5 : Int) (a6 : ByteArray) : Calls Try.prog 29 #[.agg #[.int .i64 a0, .int .i64 a1, .int .i64 a2, .int .i64 a3, .int .i64 a4, .int .i64 a5, .string a6]] w fun e w' =>
    ∃ v, e = .returned (.tuple #[v, .int .i64 (endB a0 a1 a2 a3 a4 a5 a6).ans.2]) ∧ Kd.R (Kd.int .u8) 5 w' w.heap.size (fun _ => True) v (endB a0 a1 a2 a3 a4 a5 a6).ans.1 ∧ Below w.heap.size w w' := by
  have hst := box_first (w := w) (.cells #[.int .i64 a0, .int .i64 a1, .int .i64 a2, .int .i64 a3, .int .i64 a4, .int .i64 a5, .string a6] 57)
  have hX := blk_new w (.cells #[.int .i64 a0, .int .i64 a1, .int .i64 a2, .int .i64 a3, .int .i64 a4, .int .i64 a5, .string a6] 57)
  have hend : ∀ w1 w2 : World, Frm (fun k => w.heap.size < k) (w.alloc (.cells #[.int .i64 a0, .int .i64 a1, .int .i64 a2, .int .i64 a3, .int .i64 a4, .int .i64 a5, .string a6] 57)) w1 → Below w1.heap.size w1 w2 → Below w.heap.size w w2 := fun w1 w2 => box_last rfl
  have hle : w.heap.size ≤ (w.alloc (.cells #[.int .i64 a0, .int .i64 a1, .int .i64 a2, .int .i64 a3, .int .i64 a4, .int .i64 a5, .string a6] 57)).heap.size := by simp
  obtain ⟨S, hSd⟩ : ∃ S : Nat → Prop, S = fun k => w.heap.size < k := ⟨_, rfl⟩
  have nbx : ¬ S w.heap.size := by rw [hSd]; exact hst.2
  rw [← hSd] at hend
  have HS := Aside0.mk (show ∀ q, (w.alloc (.cells #[.int .i64 a0, .int .i64 a1, .int .i64 a2, .int .i64 a3, .int .i64 a4, .int .i64 a5, .string a6] 57)).heap.size ≤ q → S q from fun q hq => by rw [hSd]; exact hst.1 q hq)
  have HX := Aside0.mk hX
  have HEND := Aside0.mk hend
  have HLE := Aside0.mk hle
  clear hst hX hend hSd hle
  go_enter Try.func29, Try.ntmps29
  go_wp2_with fail
  generalize w.alloc (.cells #[.int .i64 a0, .int .i64 a1, .int .i64 a2, .int .i64 a3, .int .i64 a4, .int .i64 a5, .string a6] 57) = w0 at HEND HS HX HLE ⊢
  generalize hbxe : w.heap.size = bx at nbx HX HEND HLE ⊢
  have HBX := Aside0.mk hbxe
  clear hbxe
  refine (new_calls w0 S 65557 (by omega) (by omega) HS.out).mono ?_
  rintro e w1 ⟨g, rfl, hb, hbel⟩
  have hf := Frm.of_below hbel S
  have HB1 := Aside0.mk hb; have HX1 := Aside0.mk (hf.blk HX.out nbx); have HG1 := Aside0.mk hf; have HS1 := Aside0.mk (fun q hq => HS.out q (Nat.le_trans hf.size hq))
  clear hb hbel hf HX HS
  go_wp2_with fail
  refine (u32_calls _ S g _ _ HB1.out HS1.out).mono ?_
  rintro e w2 ⟨rfl, hb, hf⟩
  have HB2 := Aside0.mk hb
  have HX2 := Aside0.mk (hf.blk HX1.out nbx)
  have HG2 := Aside0.mk (Frm.chain HG1.out hf)
  have HS2 := Aside0.mk (fun q hq => HS1.out q (Nat.le_trans hf.size hq))
  clear hb hf HB1 HX1 HG1 HS1
  have x0 : w2.cell? ⟨bx, 0, none⟩ = some (.int .i64 a0) := blk_cell HX2.out 0
  have x1 : w2.cell? ⟨bx, 1, none⟩ = some (.int .i64 a1) := blk_cell HX2.out 1
  have x2 : w2.cell? ⟨bx, 2, none⟩ = some (.int .i64 a2) := blk_cell HX2.out 2
  have x3 : w2.cell? ⟨bx, 3, none⟩ = some (.int .i64 a3) := blk_cell HX2.out 3
  have i0 : ∀ w : World, (Instr.index 108 (.agg #[.int .i64 a0, .int .i64 a1, .int .i64 a2, .int .i64 a3]) (.int .i64 0)).run Try.prog w = .ok (.int .i64 a0) w := fun _ => by kernel_rfl
  have i1 : ∀ w : World, (Instr.index 108 (.agg #[.int .i64 a0, .int .i64 a1, .int .i64 a2, .int .i64 a3]) (.int .i64 1)).run Try.prog w = .ok (.int .i64 a1) w := fun _ => by kernel_rfl
  have i2 : ∀ w : World, (Instr.index 108 (.agg #[.int .i64 a0, .int .i64 a1, .int .i64 a2, .int .i64 a3]) (.int .i64 2)).run Try.prog w = .ok (.int .i64 a2) w := fun _ => by kernel_rfl
  have i3 : ∀ w : World, (Instr.index 108 (.agg #[.int .i64 a0, .int .i64 a1, .int .i64 a2, .int .i64 a3]) (.int .i64 3)).run Try.prog w = .ok (.int .i64 a3) w := fun _ => by kernel_rfl
  go_wp2_with fail
  clear x0 x1 x2 x3
  go_loopg [19] 5 (fun gk v19 wr => ∃ bk, Aside0 (Buf wr S g bk) ∧ Aside0 (wr.heap[bx]? = some (.cells #[.int .i64 a0, .int .i64 a1, .int .i64 a2, .int .i64 a3, .int .i64 a4, .int .i64 a5, .string a6] 57 (0, 0))) ∧ Aside0 (Frm S w0 wr) ∧ Aside0 (∀ q, wr.heap.size ≤ q → S q) ∧ ((v19 = .int .i64 0 ∧ 5 ≤ gk ∧ Aside0 (bk = (⟨[], 65557, 0⟩ : BS).num 101010256 4)) ∨ (v19 = .int .i64 1 ∧ 4 ≤ gk ∧ Aside0 (bk = ((⟨[], 65557, 0⟩ : BS).num 101010256 4).num a0 2)) ∨ (v19 = .int .i64 2 ∧ 3 ≤ gk ∧ Aside0 (bk = (((⟨[], 65557, 0⟩ : BS).num 101010256 4).num a0 2).num a1 2)) ∨ (v19 = .int .i64 3 ∧ 2 ≤ gk ∧ Aside0 (bk = ((((⟨[], 65557, 0⟩ : BS).num 101010256 4).num a0 2).num a1 2).num a2 2)) ∨ (v19 = .int .i64 4 ∧ 1 ≤ gk ∧ Aside0 (bk = (((((⟨[], 65557, 0⟩ : BS).num 101010256 4).num a0 2).num a1 2).num a2 2).num a3 2))))
  case atStart => exact ⟨_, HB2, HX2, HG2, HS2, .inl ⟨rfl, by omega, ⟨rfl⟩⟩⟩
  case round =>
    obtain ⟨bk, HBk, HXk, HGk, HSk, hcase⟩ := hrel
    clear HB2 HX2 HG2 HS2
    rcases hcase with ⟨rfl, hgk, HE⟩ | ⟨rfl, hgk, HE⟩ | ⟨rfl, hgk, HE⟩ | ⟨rfl, hgk, HE⟩ | ⟨rfl, hgk, HE⟩
    · go_wp2_with fail
      refine (u16_calls _ S g _ _ HBk.out HSk.out).mono ?_
      rintro e wn ⟨rfl, hb, hf⟩
      go_wp2_with fail
      go_roundg 4
      case measure => omega
      case rel => exact ⟨_, ⟨hb⟩, ⟨hf.blk HXk.out nbx⟩, ⟨Frm.chain HGk.out hf⟩, ⟨fun q hq => HSk.out q (Nat.le_trans hf.size hq)⟩, .inr (.inl ⟨rfl, by omega, ⟨by rw [HE.out]⟩⟩)⟩
    · go_wp2_with fail
      refine (u16_calls _ S g _ _ HBk.out HSk.out).mono ?_
      rintro e wn ⟨rfl, hb, hf⟩
      go_wp2_with fail
      go_roundg 3
      case measure => omega
      case rel => exact ⟨_, ⟨hb⟩, ⟨hf.blk HXk.out nbx⟩, ⟨Frm.chain HGk.out hf⟩, ⟨fun q hq => HSk.out q (Nat.le_trans hf.size hq)⟩, .inr (.inr (.inl ⟨rfl, by omega, ⟨by rw [HE.out]⟩⟩))⟩
    · go_wp2_with fail
      refine (u16_calls _ S g _ _ HBk.out HSk.out).mono ?_
      rintro e wn ⟨rfl, hb, hf⟩
      go_wp2_with fail
      go_roundg 2
      case measure => omega
      case rel => exact ⟨_, ⟨hb⟩, ⟨hf.blk HXk.out nbx⟩, ⟨Frm.chain HGk.out hf⟩, ⟨fun q hq => HSk.out q (Nat.le_trans hf.size hq)⟩, .inr (.inr (.inr (.inl ⟨rfl, by omega, ⟨by rw [HE.out]⟩⟩)))⟩
    · go_wp2_with fail
      refine (u16_calls _ S g _ _ HBk.out HSk.out).mono ?_
      rintro e wn ⟨rfl, hb, hf⟩
      go_wp2_with fail
      go_roundg 1
      case measure => omega
      case rel => exact ⟨_, ⟨hb⟩, ⟨hf.blk HXk.out nbx⟩, ⟨Frm.chain HGk.out hf⟩, ⟨fun q hq => HSk.out q (Nat.le_trans hf.size hq)⟩, .inr (.inr (.inr (.inr (⟨rfl, by omega, ⟨by rw [HE.out]⟩⟩))))⟩
    · clear i0 i1 i2 i3
      have hbk := HBk.out
      rw [HE.out] at hbk
      have HB3 := Aside0.mk hbk
      clear hbk
      have HX3 := HXk
      have HG3 := HGk
      have HS3 := HSk
      clear HBk HXk HGk HSk
      have x4 : wr.cell? ⟨bx, 4, none⟩ = some (.int .i64 a4) := blk_cell HX3.out 4
      go_wp2_with fail
      refine (u32_calls _ S g _ _ HB3.out HS3.out).mono ?_
      rintro e w4 ⟨rfl, hb, hf⟩
      have HB4 := Aside0.mk hb
      have HX4 := Aside0.mk (hf.blk HX3.out nbx)
      have HG4 := Aside0.mk (Frm.chain HG3.out hf)
      have HS4 := Aside0.mk (fun q hq => HS3.out q (Nat.le_trans hf.size hq))
      clear x4
      clear hb hf HB3 HX3 HG3 HS3
      have x5 : w4.cell? ⟨bx, 5, none⟩ = some (.int .i64 a5) := blk_cell HX4.out 5
      go_wp2_with fail
      refine (u32_calls _ S g _ _ HB4.out HS4.out).mono ?_
      rintro e w5 ⟨rfl, hb, hf⟩
      have HB5 := Aside0.mk hb
      have HX5 := Aside0.mk (hf.blk HX4.out nbx)
      have HG5 := Aside0.mk (Frm.chain HG4.out hf)
      have HS5 := Aside0.mk (fun q hq => HS4.out q (Nat.le_trans hf.size hq))
      clear x5
      clear hb hf HB4 HX4 HG4 HS4
      have x6 : w5.cell? ⟨bx, 6, none⟩ = some (.string a6) := blk_cell HX5.out 6
      go_wp2_with fail
      refine (u16_calls _ S g _ _ HB5.out HS5.out).mono ?_
      rintro e w6 ⟨rfl, hb, hf⟩
      have HB6 := Aside0.mk hb
      have HX6 := Aside0.mk (hf.blk HX5.out nbx)
      have HG6 := Aside0.mk (Frm.chain HG5.out hf)
      have HS6 := Aside0.mk (fun q hq => HS5.out q (Nat.le_trans hf.size hq))
      clear x6
      clear hb hf HB5 HX5 HG5 HS5
      have x6 : w6.cell? ⟨bx, 6, none⟩ = some (.string a6) := blk_cell HX6.out 6
      go_wp2_with fail
      refine (text_calls _ S g _ _ HB6.out HS6.out).mono ?_
      rintro e w7 ⟨rfl, hb, hf⟩
      have HB7 := Aside0.mk hb
      have HX7 := Aside0.mk (hf.blk HX6.out nbx)
      have HG7 := Aside0.mk (Frm.chain HG6.out hf)
      have HS7 := Aside0.mk (fun q hq => HS6.out q (Nat.le_trans hf.size hq))
      clear x6
      clear hb hf HB6 HX6 HG6 HS6
      go_wp2_with fail
      refine (taken_calls _ S g _ HB7.out).mono ?_
      rintro e wz ⟨vz, rfl, hR, hBz⟩
      go_wp2_with fail
      go_ret2
      exact ⟨vz, rfl, by rw [HBX.out]; exact R_low hR (Nat.le_trans HLE.out HG7.out.size), by rw [HBX.out]; exact HEND.out _ _ HG7.out hBz⟩
set_option maxHeartbeats 16000000 in
set_option maxRecDepth 100000 in
theorem putDesc_signed (w : World) (a0 : Int) (a1 : Int) (a2 : Int) (a3 : Int) (a4 : Int) (a5 : Int) (a6 : Int) (a7 : Int) (a8 : ByteArray) (a9 : ByteArray) : Calls Try.prog 13 #[.agg #[.int .i64 a0, .int .i64 a1, .int .i64 a2, .int .i64 a3, .int .i64 a4, .int .u32 a5, .int .i64 a6, .int .i64 a7, .string a8, .string a9], .bool true] w fun e w' =>
    ∃ v, e = .returned (.tuple #[v, .int .i64 (descB a0 a1 a2 a3 a4 a5 a6 a7 a8 a9 true).ans.2]) ∧ Kd.R (Kd.int .u8) 5 w' w.heap.size (fun _ => True) v (descB a0 a1 a2 a3 a4 a5 a6 a7 a8 a9 true).ans.1 ∧ Below w.heap.size w w' := by
  have hst := box_first (w := w) (.cells #[.int .i64 a0, .int .i64 a1, .int .i64 a2, .int .i64 a3, .int .i64 a4, .int .u32 a5, .int .i64 a6, .int .i64 a7, .string a8, .string a9] 24)
  have hX := blk_new w (.cells #[.int .i64 a0, .int .i64 a1, .int .i64 a2, .int .i64 a3, .int .i64 a4, .int .u32 a5, .int .i64 a6, .int .i64 a7, .string a8, .string a9] 24)
  have hend : ∀ w1 w2 : World, Frm (fun k => w.heap.size < k) (w.alloc (.cells #[.int .i64 a0, .int .i64 a1, .int .i64 a2, .int .i64 a3, .int .i64 a4, .int .u32 a5, .int .i64 a6, .int .i64 a7, .string a8, .string a9] 24)) w1 → Below w1.heap.size w1 w2 → Below w.heap.size w w2 := fun w1 w2 => box_last rfl
  have hle : w.heap.size ≤ (w.alloc (.cells #[.int .i64 a0, .int .i64 a1, .int .i64 a2, .int .i64 a3, .int .i64 a4, .int .u32 a5, .int .i64 a6, .int .i64 a7, .string a8, .string a9] 24)).heap.size := by simp
  obtain ⟨S, hSd⟩ : ∃ S : Nat → Prop, S = fun k => w.heap.size < k := ⟨_, rfl⟩
  have nbx : ¬ S w.heap.size := by rw [hSd]; exact hst.2
  rw [← hSd] at hend
  have HS := Aside0.mk (show ∀ q, (w.alloc (.cells #[.int .i64 a0, .int .i64 a1, .int .i64 a2, .int .i64 a3, .int .i64 a4, .int .u32 a5, .int .i64 a6, .int .i64 a7, .string a8, .string a9] 24)).heap.size ≤ q → S q from fun q hq => by rw [hSd]; exact hst.1 q hq)
  have HX := Aside0.mk hX
  have HEND := Aside0.mk hend
  have HLE := Aside0.mk hle
  clear hst hX hend hSd hle
  go_enter Try.func13, Try.ntmps13
  go_wp2_with fail
  generalize w.alloc (.cells #[.int .i64 a0, .int .i64 a1, .int .i64 a2, .int .i64 a3, .int .i64 a4, .int .u32 a5, .int .i64 a6, .int .i64 a7, .string a8, .string a9] 24) = w0 at HEND HS HX HLE ⊢
  generalize hbxe : w.heap.size = bx at nbx HX HEND HLE ⊢
  have HBX := Aside0.mk hbxe
  clear hbxe
  refine (new_calls w0 S 16 (by omega) (by omega) HS.out).mono ?_
  rintro e w1 ⟨g, rfl, hb, hbel⟩
  have hf := Frm.of_below hbel S
  have HB1 := Aside0.mk hb; have HX1 := Aside0.mk (hf.blk HX.out nbx); have HG1 := Aside0.mk hf; have HS1 := Aside0.mk (fun q hq => HS.out q (Nat.le_trans hf.size hq))
  clear hb hbel hf HX HS
  go_wp2_with fail
  refine (u32_calls _ S g _ _ HB1.out HS1.out).mono ?_
  rintro e w2 ⟨rfl, hb, hf⟩
  have HB2 := Aside0.mk hb
  have HX2 := Aside0.mk (hf.blk HX1.out nbx)
  have HG2 := Aside0.mk (Frm.chain HG1.out hf)
  have HS2 := Aside0.mk (fun q hq => HS1.out q (Nat.le_trans hf.size hq))
  clear hb hf HB1 HX1 HG1 HS1
  have x5 : w2.cell? ⟨bx, 5, none⟩ = some (.int .u32 a5) := blk_cell HX2.out 5
  go_wp2_with fail
  refine (u32_calls _ S g _ _ HB2.out HS2.out).mono ?_
  rintro e w3 ⟨rfl, hb, hf⟩
  have HB3 := Aside0.mk hb
  have HX3 := Aside0.mk (hf.blk HX2.out nbx)
  have HG3 := Aside0.mk (Frm.chain HG2.out hf)
  have HS3 := Aside0.mk (fun q hq => HS2.out q (Nat.le_trans hf.size hq))
  clear x5
  clear hb hf HB2 HX2 HG2 HS2
  have x6 : w3.cell? ⟨bx, 6, none⟩ = some (.int .i64 a6) := blk_cell HX3.out 6
  go_wp2_with fail
  refine (u32_calls _ S g _ _ HB3.out HS3.out).mono ?_
  rintro e w4 ⟨rfl, hb, hf⟩
  have HB4 := Aside0.mk hb
  have HX4 := Aside0.mk (hf.blk HX3.out nbx)
  have HG4 := Aside0.mk (Frm.chain HG3.out hf)
  have HS4 := Aside0.mk (fun q hq => HS3.out q (Nat.le_trans hf.size hq))
  clear x6
  clear hb hf HB3 HX3 HG3 HS3
  have x7 : w4.cell? ⟨bx, 7, none⟩ = some (.int .i64 a7) := blk_cell HX4.out 7
  go_wp2_with fail
  refine (u32_calls _ S g _ _ HB4.out HS4.out).mono ?_
  rintro e w5 ⟨rfl, hb, hf⟩
  have HB5 := Aside0.mk hb
  have HX5 := Aside0.mk (hf.blk HX4.out nbx)
  have HG5 := Aside0.mk (Frm.chain HG4.out hf)
  have HS5 := Aside0.mk (fun q hq => HS4.out q (Nat.le_trans hf.size hq))
  clear x7
  clear hb hf HB4 HX4 HG4 HS4
  go_wp2_with fail
  refine (taken_calls _ S g _ HB5.out).mono ?_
  rintro e wz ⟨vz, rfl, hR, hBz⟩
  go_wp2_with fail
  go_ret2
  exact ⟨vz, rfl, by rw [HBX.out]; exact R_low hR (Nat.le_trans HLE.out HG5.out.size), by rw [HBX.out]; exact HEND.out _ _ HG5.out hBz⟩
set_option maxHeartbeats 16000000 in
set_option maxRecDepth 100000 in
theorem putDesc_bare (w : World) (a0 : Int) (a1 : Int) (a2 : Int) (a3 : Int) (a4 : Int) (a5 : Int) (a6 : Int) (a7 : Int) (a8 : ByteArray) (a9 : ByteArray) : Calls Try.prog 13 #[.agg #[.int .i64 a0, .int .i64 a1, .int .i64 a2, .int .i64 a3, .int .i64 a4, .int .u32 a5, .int .i64 a6, .int .i64 a7, .string a8, .string a9], .bool false] w fun e w' =>
    ∃ v, e = .returned (.tuple #[v, .int .i64 (descB a0 a1 a2 a3 a4 a5 a6 a7 a8 a9 false).ans.2]) ∧ Kd.R (Kd.int .u8) 5 w' w.heap.size (fun _ => True) v (descB a0 a1 a2 a3 a4 a5 a6 a7 a8 a9 false).ans.1 ∧ Below w.heap.size w w' := by
  have hst := box_first (w := w) (.cells #[.int .i64 a0, .int .i64 a1, .int .i64 a2, .int .i64 a3, .int .i64 a4, .int .u32 a5, .int .i64 a6, .int .i64 a7, .string a8, .string a9] 24)
  have hX := blk_new w (.cells #[.int .i64 a0, .int .i64 a1, .int .i64 a2, .int .i64 a3, .int .i64 a4, .int .u32 a5, .int .i64 a6, .int .i64 a7, .string a8, .string a9] 24)
  have hend : ∀ w1 w2 : World, Frm (fun k => w.heap.size < k) (w.alloc (.cells #[.int .i64 a0, .int .i64 a1, .int .i64 a2, .int .i64 a3, .int .i64 a4, .int .u32 a5, .int .i64 a6, .int .i64 a7, .string a8, .string a9] 24)) w1 → Below w1.heap.size w1 w2 → Below w.heap.size w w2 := fun w1 w2 => box_last rfl
  have hle : w.heap.size ≤ (w.alloc (.cells #[.int .i64 a0, .int .i64 a1, .int .i64 a2, .int .i64 a3, .int .i64 a4, .int .u32 a5, .int .i64 a6, .int .i64 a7, .string a8, .string a9] 24)).heap.size := by simp
  obtain ⟨S, hSd⟩ : ∃ S : Nat → Prop, S = fun k => w.heap.size < k := ⟨_, rfl⟩
  have nbx : ¬ S w.heap.size := by rw [hSd]; exact hst.2
  rw [← hSd] at hend
  have HS := Aside0.mk (show ∀ q, (w.alloc (.cells #[.int .i64 a0, .int .i64 a1, .int .i64 a2, .int .i64 a3, .int .i64 a4, .int .u32 a5, .int .i64 a6, .int .i64 a7, .string a8, .string a9] 24)).heap.size ≤ q → S q from fun q hq => by rw [hSd]; exact hst.1 q hq)
  have HX := Aside0.mk hX
  have HEND := Aside0.mk hend
  have HLE := Aside0.mk hle
  clear hst hX hend hSd hle
  go_enter Try.func13, Try.ntmps13
  go_wp2_with fail
  generalize w.alloc (.cells #[.int .i64 a0, .int .i64 a1, .int .i64 a2, .int .i64 a3, .int .i64 a4, .int .u32 a5, .int .i64 a6, .int .i64 a7, .string a8, .string a9] 24) = w0 at HEND HS HX HLE ⊢
  generalize hbxe : w.heap.size = bx at nbx HX HEND HLE ⊢
  have HBX := Aside0.mk hbxe
  clear hbxe
  refine (new_calls w0 S 16 (by omega) (by omega) HS.out).mono ?_
  rintro e w1 ⟨g, rfl, hb, hbel⟩
  have hf := Frm.of_below hbel S
  have HB1 := Aside0.mk hb; have HX1 := Aside0.mk (hf.blk HX.out nbx); have HG1 := Aside0.mk hf; have HS1 := Aside0.mk (fun q hq => HS.out q (Nat.le_trans hf.size hq))
  clear hb hbel hf HX HS
  have x5 : w1.cell? ⟨bx, 5, none⟩ = some (.int .u32 a5) := blk_cell HX1.out 5
  go_wp2_with fail
  refine (u32_calls _ S g _ _ HB1.out HS1.out).mono ?_
  rintro e w2 ⟨rfl, hb, hf⟩
  have HB2 := Aside0.mk hb
  have HX2 := Aside0.mk (hf.blk HX1.out nbx)
  have HG2 := Aside0.mk (Frm.chain HG1.out hf)
  have HS2 := Aside0.mk (fun q hq => HS1.out q (Nat.le_trans hf.size hq))
  clear x5
  clear hb hf HB1 HX1 HG1 HS1
  have x6 : w2.cell? ⟨bx, 6, none⟩ = some (.int .i64 a6) := blk_cell HX2.out 6
  go_wp2_with fail
  refine (u32_calls _ S g _ _ HB2.out HS2.out).mono ?_
  rintro e w3 ⟨rfl, hb, hf⟩
  have HB3 := Aside0.mk hb
  have HX3 := Aside0.mk (hf.blk HX2.out nbx)
  have HG3 := Aside0.mk (Frm.chain HG2.out hf)
  have HS3 := Aside0.mk (fun q hq => HS2.out q (Nat.le_trans hf.size hq))
  clear x6
  clear hb hf HB2 HX2 HG2 HS2
  have x7 : w3.cell? ⟨bx, 7, none⟩ = some (.int .i64 a7) := blk_cell HX3.out 7
  go_wp2_with fail
  refine (u32_calls _ S g _ _ HB3.out HS3.out).mono ?_
  rintro e w4 ⟨rfl, hb, hf⟩
  have HB4 := Aside0.mk hb
  have HX4 := Aside0.mk (hf.blk HX3.out nbx)
  have HG4 := Aside0.mk (Frm.chain HG3.out hf)
  have HS4 := Aside0.mk (fun q hq => HS3.out q (Nat.le_trans hf.size hq))
  clear x7
  clear hb hf HB3 HX3 HG3 HS3
  go_wp2_with fail
  refine (taken_calls _ S g _ HB4.out).mono ?_
  rintro e wz ⟨vz, rfl, hR, hBz⟩
  go_wp2_with fail
  go_ret2
  exact ⟨vz, rfl, by rw [HBX.out]; exact R_low hR (Nat.le_trans HLE.out HG4.out.size), by rw [HBX.out]; exact HEND.out _ _ HG4.out hBz⟩
end Go.Proofs.Ytkmnhlhpmfkloaa.Fld
