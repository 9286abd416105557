/- Merged texts: FldH, FldO. -/
import Derived.Test.YtkmnhlhpmfkloaaFU1
/- What GetEnd of record does: walked by hand. -/
namespace Go.Proofs.Ytkmnhlhpmfkloaa.Fld
open Go.RowKit Go.Proofs.YtkmnhlhpmfkloaaW.PrintWords Go.Proofs.YtkmnhlhpmfkloaaW.PrintLast Go.Proofs.YtkmnhlhpmfkloaaW.PrintMore Go.Proofs.Ytkmnhlhpmfkloaa.Mem
set_option linter.unusedVariables false
set_option linter.unusedSimpArgs false
theorem C_block {w : World} {b : Nat} {cs : Array Value} {t : TypeId} {l : List Int} (hb : w.heap[b]? = some (.cells cs t (0, 0))) (hl : cs.toList = l.map (Value.int .i64)) (hn : l.length ≤ 9223372036854775807) : Kd.C (Kd.int .i64) w (some ⟨b, 0, none⟩) l.length l := by
  refine ⟨rfl, hn, fun _ => ⟨_, rfl, fun j p hj => ⟨[.int .i64 p], rfl, rfl, fun i u hu => ?_⟩⟩⟩
  have hi : i = 0 := by
    rcases Nat.eq_zero_or_pos i with h | h
    · exact h
    · rw [List.getElem?_eq_none (by simp; omega)] at hu; cases hu
  subst hi
  have he : u = .int .i64 p := by simpa using hu.symm
  subst he
  have hj2 : cs[j]? = some (.int .i64 p) := by rw [← Array.getElem?_toList, hl, List.getElem?_map, hj]; rfl
  have h1 : (Kd.int .i64).sz = 1 := rfl
  rw [h1, Nat.mul_one, Nat.add_zero]
  by_cases h0 : j = 0
  · subst h0
    rw [← hj2, show (⟨b, 0, none⟩ : Addr).add 0 = ⟨b, 0, none⟩ from rfl, blk_cell hb]
  · rw [show (⟨b, 0, none⟩ : Addr).add j = ⟨b, j, none⟩ by simp [Addr.add, h0], blk_cell hb, hj2]
theorem below_sets {w w1 w2 : World} {rx : Nat} (h : Below rx w w1) (he : w.heap.size = rx) (hs : Frm (fun q => q = rx) w1 w2) : Below rx w w2 := h.trans (hs.to_below (by rw [← he]; exact h.size) (fun q hq => by rw [hq]; exact Nat.le_refl _))
theorem nm_next {w : World} {B g n : Nat} {c : CS} (h : Cur w B g c) (hn : n ≤ 4) : 0 ≤ nm (c.next n) ∧ nm (c.next n) ≤ 4294967295 := by
  obtain ⟨_, _, _, _, _, _, _, hy⟩ := h
  have h1 := nm_range (c.next n) (fun x hx => hy x (next_mem hx))
  have h2 : (c.next n).length ≤ 4 := Nat.le_trans next_len hn
  have h3 : (256 : Int) ^ (c.next n).length ≤ 256 ^ 4 := by
    generalize (c.next n).length = q at h2
    match q, h2 with
    | 0, _ => decide
    | 1, _ => decide
    | 2, _ => decide
    | 3, _ => decide
    | 4, _ => decide
  omega
theorem fields_ok_le {l : List Int} {at_ sign : Int} {n : Nat} (h : fieldsE l at_ n sign = 0) : 0 ≤ at_ ∧ at_ + n ≤ l.length := by
  unfold fieldsE at h
  by_cases h1 : at_ < 0 ∨ (l.length : Int) < at_
  · rw [if_pos h1] at h; cases h
  · rw [if_neg h1] at h
    by_cases h2 : (l.length : Int) - at_ < n
    · rw [if_pos h2] at h; cases h
    · omega
theorem textsF_len {l : List Int} : ∀ {ns : List Int} {a b : Nat} {ts : List ByteArray}, textsF l a ns = some (ts, b) → ts.length = ns.length
  | [], a, b, ts, h => by simp only [textsF, Option.some.injEq, Prod.mk.injEq] at h; rw [← h.1]; rfl
  | n :: ns, a, b, ts, h => by
    rw [textsF] at h
    split at h
    · cases h
    · cases hr : textsF l (a + n.toNat) ns with
      | none => rw [hr] at h; cases h
      | some p =>
        obtain ⟨us, b'⟩ := p
        rw [hr] at h
        simp only [Option.some.injEq, Prod.mk.injEq] at h
        rw [← h.1, List.length_cons, List.length_cons, textsF_len hr]

set_option maxHeartbeats 16000000 in
set_option maxRecDepth 100000 in
theorem getEnd_bad (w : World) (A : Option Addr) (cp : Nat) (l : List Int) (at_ : Int) (hC : Kd.C (Kd.int .u8) w A l.length l) (hcp : l.length ≤ cp) (hl : l.length ≤ 140737488355328) (hy : ∀ x ∈ l, 0 ≤ x ∧ x < 256) (E : Int) (hE : fieldsE l at_ 22 101010256 = E) (hE0 : E ≠ 0) :
    Calls Try.prog 31 #[.slice A l.length cp, .int .i64 at_] w fun e w' => e = .returned (.tuple #[.agg #[.int .i64 0, .int .i64 0, .int .i64 0, .int .i64 0, .int .i64 0, .int .i64 0, .string ⟨#[]⟩], .int .i64 0, .int .i64 E]) ∧ Below w.heap.size w w' := by
  have HC := Aside0.mk hC
  have HY := Aside0.mk hy
  have hF := fields_calls (w.alloc (.cells #[.int .i64 0, .int .i64 0, .int .i64 0, .int .i64 0, .int .i64 0, .int .i64 0, .string ⟨#[]⟩] 57)) A cp l at_ 101010256 22 (C_below' hC (below_alloc (Below.refl _ w) _)) hcp hl hy (by omega) (by omega)
  have HF := Aside0.mk hF
  have hR := blk_new w (.cells #[.int .i64 0, .int .i64 0, .int .i64 0, .int .i64 0, .int .i64 0, .int .i64 0, .string ⟨#[]⟩] 57)
  have hs0 : (w.alloc (.cells #[.int .i64 0, .int .i64 0, .int .i64 0, .int .i64 0, .int .i64 0, .int .i64 0, .string ⟨#[]⟩] 57)).heap.size = w.heap.size + 1 := by simp
  have hbel0 := below_alloc (Below.refl w.heap.size w) (.cells #[.int .i64 0, .int .i64 0, .int .i64 0, .int .i64 0, .int .i64 0, .int .i64 0, .string ⟨#[]⟩] 57)
  have HR0 := Aside0.mk hR
  have HG0 := Aside0.mk hbel0
  have HS0 := Aside0.mk hs0
  clear hC hy hF hR hs0 hbel0
  rw [hE] at HF
  have heb : (E != 0) = true := by simpa using hE0
  have HN := Aside0.mk hE0
  clear hE hE0
  go_enter Try.func31, Try.ntmps31
  go_wp2_with fail
  generalize w.alloc (.cells #[.int .i64 0, .int .i64 0, .int .i64 0, .int .i64 0, .int .i64 0, .int .i64 0, .string ⟨#[]⟩] 57) = w0 at HF HR0 HG0 HS0 ⊢
  generalize hrx : w.heap.size = rx at HR0 HG0 HS0 ⊢
  have HRX := Aside0.mk hrx
  clear hrx
  refine HF.out.mono ?_
  rintro e w1 hpost
  obtain ⟨rfl, hbel⟩ := hpost.1 HN.out
  have HR := Aside0.mk (blk_below HR0.out hbel)
  have HG := Aside0.mk (HG0.out.trans (hbel.mono (by rw [HS0.out]; omega)))
  clear hpost hbel HF HR0 HG0
  have y0 : w1.cell? ⟨rx, 0, none⟩ = some (.int .i64 0) := blk_cell HR.out 0
  have z0 : w1.frozen? ⟨rx, 0, none⟩ = false := blk_frozen HR.out 0
  have y1 : w1.cell? ⟨rx, 1, none⟩ = some (.int .i64 0) := blk_cell HR.out 1
  have z1 : w1.frozen? ⟨rx, 1, none⟩ = false := blk_frozen HR.out 1
  have y2 : w1.cell? ⟨rx, 2, none⟩ = some (.int .i64 0) := blk_cell HR.out 2
  have z2 : w1.frozen? ⟨rx, 2, none⟩ = false := blk_frozen HR.out 2
  have y3 : w1.cell? ⟨rx, 3, none⟩ = some (.int .i64 0) := blk_cell HR.out 3
  have z3 : w1.frozen? ⟨rx, 3, none⟩ = false := blk_frozen HR.out 3
  have y4 : w1.cell? ⟨rx, 4, none⟩ = some (.int .i64 0) := blk_cell HR.out 4
  have z4 : w1.frozen? ⟨rx, 4, none⟩ = false := blk_frozen HR.out 4
  have y5 : w1.cell? ⟨rx, 5, none⟩ = some (.int .i64 0) := blk_cell HR.out 5
  have z5 : w1.frozen? ⟨rx, 5, none⟩ = false := blk_frozen HR.out 5
  have y6 : w1.cell? ⟨rx, 6, none⟩ = some (.string ⟨#[]⟩) := blk_cell HR.out 6
  have z6 : w1.frozen? ⟨rx, 6, none⟩ = false := blk_frozen HR.out 6
  go_wp2_with fail
  refine bodyPost_ret (results_list (rs := [.cell 4 57, .tmp 5, .tmp 6]) rfl (by simp) (.cell rx 57 #[.int .i64 0, .int .i64 0, .int .i64 0, .int .i64 0, .int .i64 0, .int .i64 0, .string ⟨#[]⟩] (0, 0) _ rfl (blk_put (cs := #[.int .i64 0, .int .i64 0, .int .i64 0, .int .i64 0, .int .i64 0, .int .i64 0, .string ⟨#[]⟩]) (cs' := #[.int .i64 0, .int .i64 0, .int .i64 0, .int .i64 0, .int .i64 0, .int .i64 0, .string ⟨#[]⟩]) (blk_put (cs := #[.int .i64 0, .int .i64 0, .int .i64 0, .int .i64 0, .int .i64 0, .int .i64 0, .string ⟨#[]⟩]) (cs' := #[.int .i64 0, .int .i64 0, .int .i64 0, .int .i64 0, .int .i64 0, .int .i64 0, .string ⟨#[]⟩]) (blk_put (cs := #[.int .i64 0, .int .i64 0, .int .i64 0, .int .i64 0, .int .i64 0, .int .i64 0, .string ⟨#[]⟩]) (cs' := #[.int .i64 0, .int .i64 0, .int .i64 0, .int .i64 0, .int .i64 0, .int .i64 0, .string ⟨#[]⟩]) (blk_put (cs := #[.int .i64 0, .int .i64 0, .int .i64 0, .int .i64 0, .int .i64 0, .int .i64 0, .string ⟨#[]⟩]) (cs' := #[.int .i64 0, .int .i64 0, .int .i64 0, .int .i64 0, .int .i64 0, .int .i64 0, .string ⟨#[]⟩]) (blk_put (cs := #[.int .i64 0, .int .i64 0, .int .i64 0, .int .i64 0, .int .i64 0, .int .i64 0, .string ⟨#[]⟩]) (cs' := #[.int .i64 0, .int .i64 0, .int .i64 0, .int .i64 0, .int .i64 0, .int .i64 0, .string ⟨#[]⟩]) (blk_put (cs := #[.int .i64 0, .int .i64 0, .int .i64 0, .int .i64 0, .int .i64 0, .int .i64 0, .string ⟨#[]⟩]) (cs' := #[.int .i64 0, .int .i64 0, .int .i64 0, .int .i64 0, .int .i64 0, .int .i64 0, .string ⟨#[]⟩]) (blk_put (cs := #[.int .i64 0, .int .i64 0, .int .i64 0, .int .i64 0, .int .i64 0, .int .i64 0, .string ⟨#[]⟩]) (cs' := #[.int .i64 0, .int .i64 0, .int .i64 0, .int .i64 0, .int .i64 0, .int .i64 0, .string ⟨#[]⟩]) HR.out 0 (.int .i64 0) rfl) 1 (.int .i64 0) rfl) 2 (.int .i64 0) rfl) 3 (.int .i64 0) rfl) 4 (.int .i64 0) rfl) 5 (.int .i64 0) rfl) 6 (.string ⟨#[]⟩) rfl) Try.underlying57 rfl Try.infoE (.tmp (.tmp .nil)))) rfl ?_
  have hs := (Frm.setCell (Frm.setCell (Frm.setCell (Frm.setCell (Frm.setCell (Frm.setCell (Frm.setCell (Frm.refl (fun q => q = rx) w1) (p := ⟨rx, 0, none⟩) (.inl rfl) (.int .i64 0)) (p := ⟨rx, 1, none⟩) (.inl rfl) (.int .i64 0)) (p := ⟨rx, 2, none⟩) (.inl rfl) (.int .i64 0)) (p := ⟨rx, 3, none⟩) (.inl rfl) (.int .i64 0)) (p := ⟨rx, 4, none⟩) (.inl rfl) (.int .i64 0)) (p := ⟨rx, 5, none⟩) (.inl rfl) (.int .i64 0)) (p := ⟨rx, 6, none⟩) (.inl rfl) (.string ⟨#[]⟩))
  exact ⟨rfl, by rw [HRX.out]; exact below_sets HG.out HRX.out hs⟩
/-- A getter at work: its cursor, the struct x that it fills (block bx), its result's place (block rx), since the world w. -/
structure St (w : World) (B g bx rx : Nat) (TX TR : TypeId) (wr : World) (c : CS) (X R : Array Value) : Prop where
  cur : Cur wr B g c
  x : wr.heap[bx]? = some (.cells X TX (0, 0))
  r : wr.heap[rx]? = some (.cells R TR (0, 0))
  bel : Below rx w wr
  size : B ≤ wr.heap.size
  h1 : rx < g
  h2 : g < B
  h3 : B ≤ bx
  hw : w.heap.size = rx
section
variable {w wr wn : World} {B g bx rx : Nat} {TX TR : TypeId} {c c' : CS} {X R X' : Array Value}
theorem St.call (h : St w B g bx rx TX TR wr c X R) (hb : Cur wn B g c') (hf : Frm (fun q => q = g) wr wn) : St w B g bx rx TX TR wn c' X R :=
  ⟨hb, hf.blk h.x (by have := h.h2; have := h.h3; omega), hf.blk h.r (by have := h.h1; omega), h.bel.trans (hf.to_below (by rw [← h.hw]; exact h.bel.size) (fun q hq => by rw [hq]; exact Nat.le_of_lt h.h1)), Nat.le_trans h.size hf.size, h.h1, h.h2, h.h3, h.hw⟩
theorem St.store (h : St w B g bx rx TX TR wr c X R) (j : Nat) (u : Value) (he : X.setIfInBounds j u = X') : St w B g bx rx TX TR (wr.setCell ⟨bx, j, none⟩ u) c X' R := by
  have hs := (Frm.refl (fun q => q = bx) wr).setCell (p := ⟨bx, j, none⟩) (.inl rfl) u
  exact ⟨h.cur.frm hs (fun q hq e => by have := h.h3; omega), blk_put h.x j u he, hs.blk h.r (by have := h.h1; have := h.h2; have := h.h3; omega), h.bel.trans (hs.to_below (by rw [← h.hw]; exact h.bel.size) (fun q hq => by rw [hq]; have := h.h1; have := h.h2; have := h.h3; omega)), Nat.le_trans h.size hs.size, h.h1, h.h2, h.h3, h.hw⟩
theorem St.below (h : St w B g bx rx TX TR wr c X R) (hb : Below wr.heap.size wr wn) : St w B g bx rx TX TR wn c X R :=
  ⟨h.cur.frm (Frm.of_below hb (fun _ => False)) (fun _ _ e => e), blk_below h.x hb, blk_below h.r hb, h.bel.trans (hb.mono (by rw [← h.hw]; exact h.bel.size)), Nat.le_trans h.size hb.size, h.h1, h.h2, h.h3, h.hw⟩
theorem St.begin {w1 : World} (hcur : Cur w1 B g c) (hR : w1.heap[rx]? = some (.cells R TR (0, 0))) (hG : Below rx w w1) (hB : B ≤ w1.heap.size) (h1 : rx < g) (h2 : g < B) (hw : w.heap.size = rx) : St w B g w1.heap.size rx TX TR (w1.alloc (.cells X TX)) c X R :=
  ⟨hcur.frm ((Frm.refl (fun _ => False) w1).alloc _) (fun _ _ e => e), blk_new w1 _, blk_alloc hR _, (by subst hw; exact below_alloc hG _), (by simp; omega), h1, h2, hB, hw⟩
theorem cur_lt (h : Cur wr B g c) : g < B := by obtain ⟨_, _, _, _, h1, _⟩ := h; exact h1
end

set_option maxHeartbeats 16000000 in
set_option maxRecDepth 100000 in
theorem getEnd_short (w : World) (A : Option Addr) (cp : Nat) (l : List Int) (at_ : Int) (hC : Kd.C (Kd.int .u8) w A l.length l) (hcp : l.length ≤ cp) (hl : l.length ≤ 140737488355328) (hy : ∀ x ∈ l, 0 ≤ x ∧ x < 256) (hE : fieldsE l at_ 22 101010256 = 0) (hT : textsF l (at_ + 22).toNat [nm ((((((((fieldsC l at_ 22).adv 2).adv 2).adv 2).adv 2).adv 4).adv 4).next 2)] = none) :
    Calls Try.prog 31 #[.slice A l.length cp, .int .i64 at_] w fun e w' => e = .returned (.tuple #[.agg #[.int .i64 0, .int .i64 0, .int .i64 0, .int .i64 0, .int .i64 0, .int .i64 0, .string ⟨#[]⟩], .int .i64 0, .int .i64 122]) ∧ Below w.heap.size w w' := by
  have HC := Aside0.mk hC
  have HY := Aside0.mk hy
  have hF := fields_calls (w.alloc (.cells #[.int .i64 0, .int .i64 0, .int .i64 0, .int .i64 0, .int .i64 0, .int .i64 0, .string ⟨#[]⟩] 57)) A cp l at_ 101010256 22 (C_below' hC (below_alloc (Below.refl _ w) _)) hcp hl hy (by omega) (by omega)
  have HF := Aside0.mk hF
  have hR := blk_new w (.cells #[.int .i64 0, .int .i64 0, .int .i64 0, .int .i64 0, .int .i64 0, .int .i64 0, .string ⟨#[]⟩] 57)
  have hs0 : (w.alloc (.cells #[.int .i64 0, .int .i64 0, .int .i64 0, .int .i64 0, .int .i64 0, .int .i64 0, .string ⟨#[]⟩] 57)).heap.size = w.heap.size + 1 := by simp
  have hbel0 := below_alloc (Below.refl w.heap.size w) (.cells #[.int .i64 0, .int .i64 0, .int .i64 0, .int .i64 0, .int .i64 0, .int .i64 0, .string ⟨#[]⟩] 57)
  have HR0 := Aside0.mk hR
  have HG0 := Aside0.mk hbel0
  have HS0 := Aside0.mk hs0
  clear hC hy hF hR hs0 hbel0
  rw [hE] at HF
  obtain ⟨ha0, ha1⟩ := fields_ok_le hE
  have b1 : (0 : Int) ≤ at_ + 22 := by omega
  have b2 : at_ + 22 ≤ 140737488355328 := by omega
  have b3 : at_ + 22 ≤ (l.length : Int) := by omega
  have HT := Aside0.mk hT
  clear hE hT ha0 ha1
  go_enter Try.func31, Try.ntmps31
  go_wp2_with fail
  generalize w.alloc (.cells #[.int .i64 0, .int .i64 0, .int .i64 0, .int .i64 0, .int .i64 0, .int .i64 0, .string ⟨#[]⟩] 57) = w0 at HF HR0 HG0 HS0 ⊢
  generalize hrx : w.heap.size = rx at HR0 HG0 HS0 ⊢
  have HRX := Aside0.mk hrx
  clear hrx
  refine HF.out.mono ?_
  rintro e w1 hpost
  obtain ⟨g, B, rfl, hg, hB, hcur, hbel⟩ := hpost.2 rfl
  have hS := St.begin (TX := 57) (X := #[.int .i64 0, .int .i64 0, .int .i64 0, .int .i64 0, .int .i64 0, .int .i64 0, .string ⟨#[]⟩]) hcur (blk_below HR0.out hbel) (HG0.out.trans (hbel.mono (by rw [HS0.out]; omega))) hB (by rw [HS0.out] at hg; omega) (cur_lt hcur) HRX.out
  have HS := Aside0.mk hS
  clear hpost hbel HF HR0 HG0 HS0 hcur hB hg hS
  go_wp2_with fail
  generalize w1.alloc (.cells #[.int .i64 0, .int .i64 0, .int .i64 0, .int .i64 0, .int .i64 0, .int .i64 0, .string ⟨#[]⟩] 57) = w2 at HS ⊢
  generalize w1.heap.size = bx at HS ⊢
  have i0 : ∀ w : World, (Instr.index 112 (.agg #[.pointer (some ⟨bx, 0, none⟩), .pointer (some ⟨bx, 1, none⟩), .pointer (some ⟨bx, 2, none⟩), .pointer (some ⟨bx, 3, none⟩)]) (.int .i64 0)).run Try.prog w = .ok (.pointer (some ⟨bx, 0, none⟩)) w := fun _ => by kernel_rfl
  have i1 : ∀ w : World, (Instr.index 112 (.agg #[.pointer (some ⟨bx, 0, none⟩), .pointer (some ⟨bx, 1, none⟩), .pointer (some ⟨bx, 2, none⟩), .pointer (some ⟨bx, 3, none⟩)]) (.int .i64 1)).run Try.prog w = .ok (.pointer (some ⟨bx, 1, none⟩)) w := fun _ => by kernel_rfl
  have i2 : ∀ w : World, (Instr.index 112 (.agg #[.pointer (some ⟨bx, 0, none⟩), .pointer (some ⟨bx, 1, none⟩), .pointer (some ⟨bx, 2, none⟩), .pointer (some ⟨bx, 3, none⟩)]) (.int .i64 2)).run Try.prog w = .ok (.pointer (some ⟨bx, 2, none⟩)) w := fun _ => by kernel_rfl
  have i3 : ∀ w : World, (Instr.index 112 (.agg #[.pointer (some ⟨bx, 0, none⟩), .pointer (some ⟨bx, 1, none⟩), .pointer (some ⟨bx, 2, none⟩), .pointer (some ⟨bx, 3, none⟩)]) (.int .i64 3)).run Try.prog w = .ok (.pointer (some ⟨bx, 3, none⟩)) w := fun _ => by kernel_rfl
  go_loopg [29] 5 (fun gk v29 wr => (v29 = .int .i64 0 ∧ 5 ≤ gk ∧ Aside0 (St w B g bx rx 57 57 wr (fieldsC l at_ 22) #[.int .i64 0, .int .i64 0, .int .i64 0, .int .i64 0, .int .i64 0, .int .i64 0, .string ⟨#[]⟩] #[.int .i64 0, .int .i64 0, .int .i64 0, .int .i64 0, .int .i64 0, .int .i64 0, .string ⟨#[]⟩])) ∨ (v29 = .int .i64 1 ∧ 4 ≤ gk ∧ Aside0 (St w B g bx rx 57 57 wr ((fieldsC l at_ 22).adv 2) #[.int .i64 (nm ((fieldsC l at_ 22).next 2)), .int .i64 0, .int .i64 0, .int .i64 0, .int .i64 0, .int .i64 0, .string ⟨#[]⟩] #[.int .i64 0, .int .i64 0, .int .i64 0, .int .i64 0, .int .i64 0, .int .i64 0, .string ⟨#[]⟩])) ∨ (v29 = .int .i64 2 ∧ 3 ≤ gk ∧ Aside0 (St w B g bx rx 57 57 wr (((fieldsC l at_ 22).adv 2).adv 2) #[.int .i64 (nm ((fieldsC l at_ 22).next 2)), .int .i64 (nm (((fieldsC l at_ 22).adv 2).next 2)), .int .i64 0, .int .i64 0, .int .i64 0, .int .i64 0, .string ⟨#[]⟩] #[.int .i64 0, .int .i64 0, .int .i64 0, .int .i64 0, .int .i64 0, .int .i64 0, .string ⟨#[]⟩])) ∨ (v29 = .int .i64 3 ∧ 2 ≤ gk ∧ Aside0 (St w B g bx rx 57 57 wr ((((fieldsC l at_ 22).adv 2).adv 2).adv 2) #[.int .i64 (nm ((fieldsC l at_ 22).next 2)), .int .i64 (nm (((fieldsC l at_ 22).adv 2).next 2)), .int .i64 (nm ((((fieldsC l at_ 22).adv 2).adv 2).next 2)), .int .i64 0, .int .i64 0, .int .i64 0, .string ⟨#[]⟩] #[.int .i64 0, .int .i64 0, .int .i64 0, .int .i64 0, .int .i64 0, .int .i64 0, .string ⟨#[]⟩])) ∨ (v29 = .int .i64 4 ∧ 1 ≤ gk ∧ Aside0 (St w B g bx rx 57 57 wr (((((fieldsC l at_ 22).adv 2).adv 2).adv 2).adv 2) #[.int .i64 (nm ((fieldsC l at_ 22).next 2)), .int .i64 (nm (((fieldsC l at_ 22).adv 2).next 2)), .int .i64 (nm ((((fieldsC l at_ 22).adv 2).adv 2).next 2)), .int .i64 (nm (((((fieldsC l at_ 22).adv 2).adv 2).adv 2).next 2)), .int .i64 0, .int .i64 0, .string ⟨#[]⟩] #[.int .i64 0, .int .i64 0, .int .i64 0, .int .i64 0, .int .i64 0, .int .i64 0, .string ⟨#[]⟩])))
  case atStart => exact .inl ⟨rfl, by omega, HS⟩
  case round =>
    clear HS
    rcases hrel with ⟨rfl, hgk, HS⟩ | ⟨rfl, hgk, HS⟩ | ⟨rfl, hgk, HS⟩ | ⟨rfl, hgk, HS⟩ | ⟨rfl, hgk, HS⟩
    · go_wp2_with fail
      refine (c16_calls _ B g _ HS.out.cur HS.out.size).mono ?_
      rintro e wn ⟨rfl, hb, hf⟩
      have hs2 := HS.out.call hb hf
      have hc : wn.cell? ⟨bx, 0, none⟩ = some (.int .i64 0) := blk_cell hs2.x 0
      have hz : wn.frozen? ⟨bx, 0, none⟩ = false := blk_frozen hs2.x 0
      go_wp2_with fail
      go_roundg 4
      case measure => omega
      case rel => exact .inr (.inl ⟨rfl, by omega, ⟨hs2.store 0 _ rfl⟩⟩)
    · go_wp2_with fail
      refine (c16_calls _ B g _ HS.out.cur HS.out.size).mono ?_
      rintro e wn ⟨rfl, hb, hf⟩
      have hs2 := HS.out.call hb hf
      have hc : wn.cell? ⟨bx, 1, none⟩ = some (.int .i64 0) := blk_cell hs2.x 1
      have hz : wn.frozen? ⟨bx, 1, none⟩ = false := blk_frozen hs2.x 1
      go_wp2_with fail
      go_roundg 3
      case measure => omega
      case rel => exact .inr (.inr (.inl ⟨rfl, by omega, ⟨hs2.store 1 _ rfl⟩⟩))
    · go_wp2_with fail
      refine (c16_calls _ B g _ HS.out.cur HS.out.size).mono ?_
      rintro e wn ⟨rfl, hb, hf⟩
      have hs2 := HS.out.call hb hf
      have hc : wn.cell? ⟨bx, 2, none⟩ = some (.int .i64 0) := blk_cell hs2.x 2
      have hz : wn.frozen? ⟨bx, 2, none⟩ = false := blk_frozen hs2.x 2
      go_wp2_with fail
      go_roundg 2
      case measure => omega
      case rel => exact .inr (.inr (.inr (.inl ⟨rfl, by omega, ⟨hs2.store 2 _ rfl⟩⟩)))
    · go_wp2_with fail
      refine (c16_calls _ B g _ HS.out.cur HS.out.size).mono ?_
      rintro e wn ⟨rfl, hb, hf⟩
      have hs2 := HS.out.call hb hf
      have hc : wn.cell? ⟨bx, 3, none⟩ = some (.int .i64 0) := blk_cell hs2.x 3
      have hz : wn.frozen? ⟨bx, 3, none⟩ = false := blk_frozen hs2.x 3
      go_wp2_with fail
      go_roundg 1
      case measure => omega
      case rel => exact .inr (.inr (.inr (.inr (⟨rfl, by omega, ⟨hs2.store 3 _ rfl⟩⟩))))
    · clear i0 i1 i2 i3
      go_wp2_with fail
      refine (c32_calls _ B g _ HS.out.cur HS.out.size).mono ?_
      rintro e wn ⟨rfl, hb, hf⟩
      have hs2 := HS.out.call hb hf
      have hc : wn.cell? ⟨bx, 4, none⟩ = some (.int .i64 0) := blk_cell hs2.x 4
      have hz : wn.frozen? ⟨bx, 4, none⟩ = false := blk_frozen hs2.x 4
      replace HS := Aside0.mk (hs2.store 4 (.int .i64 (nm ((((((fieldsC l at_ 22).adv 2).adv 2).adv 2).adv 2).next 4))) (X' := #[.int .i64 (nm ((fieldsC l at_ 22).next 2)), .int .i64 (nm (((fieldsC l at_ 22).adv 2).next 2)), .int .i64 (nm ((((fieldsC l at_ 22).adv 2).adv 2).next 2)), .int .i64 (nm (((((fieldsC l at_ 22).adv 2).adv 2).adv 2).next 2)), .int .i64 (nm ((((((fieldsC l at_ 22).adv 2).adv 2).adv 2).adv 2).next 4)), .int .i64 0, .string ⟨#[]⟩]) rfl)
      clear hs2 hb hf
      go_wp2_with fail
      clear hc hz
      refine (c32_calls _ B g _ HS.out.cur HS.out.size).mono ?_
      rintro e wn ⟨rfl, hb, hf⟩
      have hs2 := HS.out.call hb hf
      have hc : wn.cell? ⟨bx, 5, none⟩ = some (.int .i64 0) := blk_cell hs2.x 5
      have hz : wn.frozen? ⟨bx, 5, none⟩ = false := blk_frozen hs2.x 5
      replace HS := Aside0.mk (hs2.store 5 (.int .i64 (nm (((((((fieldsC l at_ 22).adv 2).adv 2).adv 2).adv 2).adv 4).next 4))) (X' := #[.int .i64 (nm ((fieldsC l at_ 22).next 2)), .int .i64 (nm (((fieldsC l at_ 22).adv 2).next 2)), .int .i64 (nm ((((fieldsC l at_ 22).adv 2).adv 2).next 2)), .int .i64 (nm (((((fieldsC l at_ 22).adv 2).adv 2).adv 2).next 2)), .int .i64 (nm ((((((fieldsC l at_ 22).adv 2).adv 2).adv 2).adv 2).next 4)), .int .i64 (nm (((((((fieldsC l at_ 22).adv 2).adv 2).adv 2).adv 2).adv 4).next 4)), .string ⟨#[]⟩]) rfl)
      clear hs2 hb hf
      go_wp2_with fail
      clear hc hz
      refine (c16_calls _ B g _ HS.out.cur HS.out.size).mono ?_
      rintro e wn ⟨rfl, hb, hf⟩
      have hnm := nm_next HS.out.cur (n := 2) (by omega)
      have HNM := Aside0.mk hnm
      replace HS := Aside0.mk (HS.out.call hb hf)
      clear hb hf hnm
      go_wp2_with fail
      have hblk := blk_new wn (.cells #[.int .i64 (nm ((((((((fieldsC l at_ 22).adv 2).adv 2).adv 2).adv 2).adv 4).adv 4).next 2))] 3)
      replace HS := Aside0.mk (HS.out.below (below_alloc (Below.refl _ wn) (.cells #[.int .i64 (nm ((((((((fieldsC l at_ 22).adv 2).adv 2).adv 2).adv 2).adv 4).adv 4).next 2))] 3)))
      have hC2 := C_below' HC.out (by rw [HRX.out]; exact HS.out.bel)
      have hT2 := texts_calls (wn.alloc (.cells #[.int .i64 (nm ((((((((fieldsC l at_ 22).adv 2).adv 2).adv 2).adv 2).adv 4).adv 4).next 2))] 3)) A cp l (at_ + 22) (some ⟨wn.heap.size, 0, none⟩) 1 [nm ((((((((fieldsC l at_ 22).adv 2).adv 2).adv 2).adv 2).adv 4).adv 4).next 2)] hC2 hcp hl b1 b3 (C_block hblk rfl (by simp)) (by simp) (fun n hn => by rw [List.mem_singleton.1 hn]; exact HNM.out)
      generalize wn.alloc (.cells #[.int .i64 (nm ((((((((fieldsC l at_ 22).adv 2).adv 2).adv 2).adv 2).adv 4).adv 4).next 2))] 3) = w3 at HS hT2 ⊢
      have HT2 := Aside0.mk hT2
      clear hT2 hblk hC2
      refine HT2.out.mono ?_
      rintro e w4 hpost
      obtain ⟨rfl, hbel⟩ := hpost.1 HT.out
      have hS4 := HS.out.below (hbel.mono (Nat.le_refl _))
      have HR := Aside0.mk hS4.r
      have HG := Aside0.mk hS4.bel
      clear hpost hbel hS4 HS HT2
      have y0 : w4.cell? ⟨rx, 0, none⟩ = some (.int .i64 0) := blk_cell HR.out 0
      have z0 : w4.frozen? ⟨rx, 0, none⟩ = false := blk_frozen HR.out 0
      have y1 : w4.cell? ⟨rx, 1, none⟩ = some (.int .i64 0) := blk_cell HR.out 1
      have z1 : w4.frozen? ⟨rx, 1, none⟩ = false := blk_frozen HR.out 1
      have y2 : w4.cell? ⟨rx, 2, none⟩ = some (.int .i64 0) := blk_cell HR.out 2
      have z2 : w4.frozen? ⟨rx, 2, none⟩ = false := blk_frozen HR.out 2
      have y3 : w4.cell? ⟨rx, 3, none⟩ = some (.int .i64 0) := blk_cell HR.out 3
      have z3 : w4.frozen? ⟨rx, 3, none⟩ = false := blk_frozen HR.out 3
      have y4 : w4.cell? ⟨rx, 4, none⟩ = some (.int .i64 0) := blk_cell HR.out 4
      have z4 : w4.frozen? ⟨rx, 4, none⟩ = false := blk_frozen HR.out 4
      have y5 : w4.cell? ⟨rx, 5, none⟩ = some (.int .i64 0) := blk_cell HR.out 5
      have z5 : w4.frozen? ⟨rx, 5, none⟩ = false := blk_frozen HR.out 5
      have y6 : w4.cell? ⟨rx, 6, none⟩ = some (.string ⟨#[]⟩) := blk_cell HR.out 6
      have z6 : w4.frozen? ⟨rx, 6, none⟩ = false := blk_frozen HR.out 6
      go_wp2_with fail
      refine bodyPost_ret (results_list (rs := [.cell 4 57, .tmp 5, .tmp 6]) rfl (by simp) (.cell rx 57 #[.int .i64 0, .int .i64 0, .int .i64 0, .int .i64 0, .int .i64 0, .int .i64 0, .string ⟨#[]⟩] (0, 0) _ rfl (blk_put (cs := #[.int .i64 0, .int .i64 0, .int .i64 0, .int .i64 0, .int .i64 0, .int .i64 0, .string ⟨#[]⟩]) (cs' := #[.int .i64 0, .int .i64 0, .int .i64 0, .int .i64 0, .int .i64 0, .int .i64 0, .string ⟨#[]⟩]) (blk_put (cs := #[.int .i64 0, .int .i64 0, .int .i64 0, .int .i64 0, .int .i64 0, .int .i64 0, .string ⟨#[]⟩]) (cs' := #[.int .i64 0, .int .i64 0, .int .i64 0, .int .i64 0, .int .i64 0, .int .i64 0, .string ⟨#[]⟩]) (blk_put (cs := #[.int .i64 0, .int .i64 0, .int .i64 0, .int .i64 0, .int .i64 0, .int .i64 0, .string ⟨#[]⟩]) (cs' := #[.int .i64 0, .int .i64 0, .int .i64 0, .int .i64 0, .int .i64 0, .int .i64 0, .string ⟨#[]⟩]) (blk_put (cs := #[.int .i64 0, .int .i64 0, .int .i64 0, .int .i64 0, .int .i64 0, .int .i64 0, .string ⟨#[]⟩]) (cs' := #[.int .i64 0, .int .i64 0, .int .i64 0, .int .i64 0, .int .i64 0, .int .i64 0, .string ⟨#[]⟩]) (blk_put (cs := #[.int .i64 0, .int .i64 0, .int .i64 0, .int .i64 0, .int .i64 0, .int .i64 0, .string ⟨#[]⟩]) (cs' := #[.int .i64 0, .int .i64 0, .int .i64 0, .int .i64 0, .int .i64 0, .int .i64 0, .string ⟨#[]⟩]) (blk_put (cs := #[.int .i64 0, .int .i64 0, .int .i64 0, .int .i64 0, .int .i64 0, .int .i64 0, .string ⟨#[]⟩]) (cs' := #[.int .i64 0, .int .i64 0, .int .i64 0, .int .i64 0, .int .i64 0, .int .i64 0, .string ⟨#[]⟩]) (blk_put (cs := #[.int .i64 0, .int .i64 0, .int .i64 0, .int .i64 0, .int .i64 0, .int .i64 0, .string ⟨#[]⟩]) (cs' := #[.int .i64 0, .int .i64 0, .int .i64 0, .int .i64 0, .int .i64 0, .int .i64 0, .string ⟨#[]⟩]) HR.out 0 (.int .i64 0) rfl) 1 (.int .i64 0) rfl) 2 (.int .i64 0) rfl) 3 (.int .i64 0) rfl) 4 (.int .i64 0) rfl) 5 (.int .i64 0) rfl) 6 (.string ⟨#[]⟩) rfl) Try.underlying57 rfl Try.infoE (.tmp (.tmp .nil)))) rfl ?_
      have hs := (Frm.setCell (Frm.setCell (Frm.setCell (Frm.setCell (Frm.setCell (Frm.setCell (Frm.setCell (Frm.refl (fun q => q = rx) w4) (p := ⟨rx, 0, none⟩) (.inl rfl) (.int .i64 0)) (p := ⟨rx, 1, none⟩) (.inl rfl) (.int .i64 0)) (p := ⟨rx, 2, none⟩) (.inl rfl) (.int .i64 0)) (p := ⟨rx, 3, none⟩) (.inl rfl) (.int .i64 0)) (p := ⟨rx, 4, none⟩) (.inl rfl) (.int .i64 0)) (p := ⟨rx, 5, none⟩) (.inl rfl) (.int .i64 0)) (p := ⟨rx, 6, none⟩) (.inl rfl) (.string ⟨#[]⟩))
      exact ⟨rfl, by rw [HRX.out]; exact below_sets HG.out HRX.out hs⟩
set_option maxHeartbeats 16000000 in
set_option maxRecDepth 100000 in
theorem getEnd_ok (w : World) (A : Option Addr) (cp : Nat) (l : List Int) (at_ : Int) (hC : Kd.C (Kd.int .u8) w A l.length l) (hcp : l.length ≤ cp) (hl : l.length ≤ 140737488355328) (hy : ∀ x ∈ l, 0 ≤ x ∧ x < 256) (hE : fieldsE l at_ 22 101010256 = 0) (s : ByteArray) (b : Nat) (hT : textsF l (at_ + 22).toNat [nm ((((((((fieldsC l at_ 22).adv 2).adv 2).adv 2).adv 2).adv 4).adv 4).next 2)] = some ([s], b)) :
    Calls Try.prog 31 #[.slice A l.length cp, .int .i64 at_] w fun e w' => e = .returned (.tuple #[.agg #[.int .i64 (nm ((fieldsC l at_ 22).next 2)), .int .i64 (nm (((fieldsC l at_ 22).adv 2).next 2)), .int .i64 (nm ((((fieldsC l at_ 22).adv 2).adv 2).next 2)), .int .i64 (nm (((((fieldsC l at_ 22).adv 2).adv 2).adv 2).next 2)), .int .i64 (nm ((((((fieldsC l at_ 22).adv 2).adv 2).adv 2).adv 2).next 4)), .int .i64 (nm (((((((fieldsC l at_ 22).adv 2).adv 2).adv 2).adv 2).adv 4).next 4)), .string s], .int .i64 (b : Int), .int .i64 0]) ∧ Below w.heap.size w w' := by
  have HC := Aside0.mk hC
  have HY := Aside0.mk hy
  have hF := fields_calls (w.alloc (.cells #[.int .i64 0, .int .i64 0, .int .i64 0, .int .i64 0, .int .i64 0, .int .i64 0, .string ⟨#[]⟩] 57)) A cp l at_ 101010256 22 (C_below' hC (below_alloc (Below.refl _ w) _)) hcp hl hy (by omega) (by omega)
  have HF := Aside0.mk hF
  have hR := blk_new w (.cells #[.int .i64 0, .int .i64 0, .int .i64 0, .int .i64 0, .int .i64 0, .int .i64 0, .string ⟨#[]⟩] 57)
  have hs0 : (w.alloc (.cells #[.int .i64 0, .int .i64 0, .int .i64 0, .int .i64 0, .int .i64 0, .int .i64 0, .string ⟨#[]⟩] 57)).heap.size = w.heap.size + 1 := by simp
  have hbel0 := below_alloc (Below.refl w.heap.size w) (.cells #[.int .i64 0, .int .i64 0, .int .i64 0, .int .i64 0, .int .i64 0, .int .i64 0, .string ⟨#[]⟩] 57)
  have HR0 := Aside0.mk hR
  have HG0 := Aside0.mk hbel0
  have HS0 := Aside0.mk hs0
  clear hC hy hF hR hs0 hbel0
  rw [hE] at HF
  obtain ⟨ha0, ha1⟩ := fields_ok_le hE
  have b1 : (0 : Int) ≤ at_ + 22 := by omega
  have b2 : at_ + 22 ≤ 140737488355328 := by omega
  have b3 : at_ + 22 ≤ (l.length : Int) := by omega
  have HT := Aside0.mk hT
  clear hE hT ha0 ha1
  go_enter Try.func31, Try.ntmps31
  go_wp2_with fail
  generalize w.alloc (.cells #[.int .i64 0, .int .i64 0, .int .i64 0, .int .i64 0, .int .i64 0, .int .i64 0, .string ⟨#[]⟩] 57) = w0 at HF HR0 HG0 HS0 ⊢
  generalize hrx : w.heap.size = rx at HR0 HG0 HS0 ⊢
  have HRX := Aside0.mk hrx
  clear hrx
  refine HF.out.mono ?_
  rintro e w1 hpost
  obtain ⟨g, B, rfl, hg, hB, hcur, hbel⟩ := hpost.2 rfl
  have hS := St.begin (TX := 57) (X := #[.int .i64 0, .int .i64 0, .int .i64 0, .int .i64 0, .int .i64 0, .int .i64 0, .string ⟨#[]⟩]) hcur (blk_below HR0.out hbel) (HG0.out.trans (hbel.mono (by rw [HS0.out]; omega))) hB (by rw [HS0.out] at hg; omega) (cur_lt hcur) HRX.out
  have HS := Aside0.mk hS
  clear hpost hbel HF HR0 HG0 HS0 hcur hB hg hS
  go_wp2_with fail
  generalize w1.alloc (.cells #[.int .i64 0, .int .i64 0, .int .i64 0, .int .i64 0, .int .i64 0, .int .i64 0, .string ⟨#[]⟩] 57) = w2 at HS ⊢
  generalize w1.heap.size = bx at HS ⊢
  have i0 : ∀ w : World, (Instr.index 112 (.agg #[.pointer (some ⟨bx, 0, none⟩), .pointer (some ⟨bx, 1, none⟩), .pointer (some ⟨bx, 2, none⟩), .pointer (some ⟨bx, 3, none⟩)]) (.int .i64 0)).run Try.prog w = .ok (.pointer (some ⟨bx, 0, none⟩)) w := fun _ => by kernel_rfl
  have i1 : ∀ w : World, (Instr.index 112 (.agg #[.pointer (some ⟨bx, 0, none⟩), .pointer (some ⟨bx, 1, none⟩), .pointer (some ⟨bx, 2, none⟩), .pointer (some ⟨bx, 3, none⟩)]) (.int .i64 1)).run Try.prog w = .ok (.pointer (some ⟨bx, 1, none⟩)) w := fun _ => by kernel_rfl
  have i2 : ∀ w : World, (Instr.index 112 (.agg #[.pointer (some ⟨bx, 0, none⟩), .pointer (some ⟨bx, 1, none⟩), .pointer (some ⟨bx, 2, none⟩), .pointer (some ⟨bx, 3, none⟩)]) (.int .i64 2)).run Try.prog w = .ok (.pointer (some ⟨bx, 2, none⟩)) w := fun _ => by kernel_rfl
  have i3 : ∀ w : World, (Instr.index 112 (.agg #[.pointer (some ⟨bx, 0, none⟩), .pointer (some ⟨bx, 1, none⟩), .pointer (some ⟨bx, 2, none⟩), .pointer (some ⟨bx, 3, none⟩)]) (.int .i64 3)).run Try.prog w = .ok (.pointer (some ⟨bx, 3, none⟩)) w := fun _ => by kernel_rfl
  go_loopg [29] 5 (fun gk v29 wr => (v29 = .int .i64 0 ∧ 5 ≤ gk ∧ Aside0 (St w B g bx rx 57 57 wr (fieldsC l at_ 22) #[.int .i64 0, .int .i64 0, .int .i64 0, .int .i64 0, .int .i64 0, .int .i64 0, .string ⟨#[]⟩] #[.int .i64 0, .int .i64 0, .int .i64 0, .int .i64 0, .int .i64 0, .int .i64 0, .string ⟨#[]⟩])) ∨ (v29 = .int .i64 1 ∧ 4 ≤ gk ∧ Aside0 (St w B g bx rx 57 57 wr ((fieldsC l at_ 22).adv 2) #[.int .i64 (nm ((fieldsC l at_ 22).next 2)), .int .i64 0, .int .i64 0, .int .i64 0, .int .i64 0, .int .i64 0, .string ⟨#[]⟩] #[.int .i64 0, .int .i64 0, .int .i64 0, .int .i64 0, .int .i64 0, .int .i64 0, .string ⟨#[]⟩])) ∨ (v29 = .int .i64 2 ∧ 3 ≤ gk ∧ Aside0 (St w B g bx rx 57 57 wr (((fieldsC l at_ 22).adv 2).adv 2) #[.int .i64 (nm ((fieldsC l at_ 22).next 2)), .int .i64 (nm (((fieldsC l at_ 22).adv 2).next 2)), .int .i64 0, .int .i64 0, .int .i64 0, .int .i64 0, .string ⟨#[]⟩] #[.int .i64 0, .int .i64 0, .int .i64 0, .int .i64 0, .int .i64 0, .int .i64 0, .string ⟨#[]⟩])) ∨ (v29 = .int .i64 3 ∧ 2 ≤ gk ∧ Aside0 (St w B g bx rx 57 57 wr ((((fieldsC l at_ 22).adv 2).adv 2).adv 2) #[.int .i64 (nm ((fieldsC l at_ 22).next 2)), .int .i64 (nm (((fieldsC l at_ 22).adv 2).next 2)), .int .i64 (nm ((((fieldsC l at_ 22).adv 2).adv 2).next 2)), .int .i64 0, .int .i64 0, .int .i64 0, .string ⟨#[]⟩] #[.int .i64 0, .int .i64 0, .int .i64 0, .int .i64 0, .int .i64 0, .int .i64 0, .string ⟨#[]⟩])) ∨ (v29 = .int .i64 4 ∧ 1 ≤ gk ∧ Aside0 (St w B g bx rx 57 57 wr (((((fieldsC l at_ 22).adv 2).adv 2).adv 2).adv 2) #[.int .i64 (nm ((fieldsC l at_ 22).next 2)), .int .i64 (nm (((fieldsC l at_ 22).adv 2).next 2)), .int .i64 (nm ((((fieldsC l at_ 22).adv 2).adv 2).next 2)), .int .i64 (nm (((((fieldsC l at_ 22).adv 2).adv 2).adv 2).next 2)), .int .i64 0, .int .i64 0, .string ⟨#[]⟩] #[.int .i64 0, .int .i64 0, .int .i64 0, .int .i64 0, .int .i64 0, .int .i64 0, .string ⟨#[]⟩])))
  case atStart => exact .inl ⟨rfl, by omega, HS⟩
  case round =>
    clear HS
    rcases hrel with ⟨rfl, hgk, HS⟩ | ⟨rfl, hgk, HS⟩ | ⟨rfl, hgk, HS⟩ | ⟨rfl, hgk, HS⟩ | ⟨rfl, hgk, HS⟩
    · go_wp2_with fail
      refine (c16_calls _ B g _ HS.out.cur HS.out.size).mono ?_
      rintro e wn ⟨rfl, hb, hf⟩
      have hs2 := HS.out.call hb hf
      have hc : wn.cell? ⟨bx, 0, none⟩ = some (.int .i64 0) := blk_cell hs2.x 0
      have hz : wn.frozen? ⟨bx, 0, none⟩ = false := blk_frozen hs2.x 0
      go_wp2_with fail
      go_roundg 4
      case measure => omega
      case rel => exact .inr (.inl ⟨rfl, by omega, ⟨hs2.store 0 _ rfl⟩⟩)
    · go_wp2_with fail
      refine (c16_calls _ B g _ HS.out.cur HS.out.size).mono ?_
      rintro e wn ⟨rfl, hb, hf⟩
      have hs2 := HS.out.call hb hf
      have hc : wn.cell? ⟨bx, 1, none⟩ = some (.int .i64 0) := blk_cell hs2.x 1
      have hz : wn.frozen? ⟨bx, 1, none⟩ = false := blk_frozen hs2.x 1
      go_wp2_with fail
      go_roundg 3
      case measure => omega
      case rel => exact .inr (.inr (.inl ⟨rfl, by omega, ⟨hs2.store 1 _ rfl⟩⟩))
    · go_wp2_with fail
      refine (c16_calls _ B g _ HS.out.cur HS.out.size).mono ?_
      rintro e wn ⟨rfl, hb, hf⟩
      have hs2 := HS.out.call hb hf
      have hc : wn.cell? ⟨bx, 2, none⟩ = some (.int .i64 0) := blk_cell hs2.x 2
      have hz : wn.frozen? ⟨bx, 2, none⟩ = false := blk_frozen hs2.x 2
      go_wp2_with fail
      go_roundg 2
      case measure => omega
      case rel => exact .inr (.inr (.inr (.inl ⟨rfl, by omega, ⟨hs2.store 2 _ rfl⟩⟩)))
    · go_wp2_with fail
      refine (c16_calls _ B g _ HS.out.cur HS.out.size).mono ?_
      rintro e wn ⟨rfl, hb, hf⟩
      have hs2 := HS.out.call hb hf
      have hc : wn.cell? ⟨bx, 3, none⟩ = some (.int .i64 0) := blk_cell hs2.x 3
      have hz : wn.frozen? ⟨bx, 3, none⟩ = false := blk_frozen hs2.x 3
      go_wp2_with fail
      go_roundg 1
      case measure => omega
      case rel => exact .inr (.inr (.inr (.inr (⟨rfl, by omega, ⟨hs2.store 3 _ rfl⟩⟩))))
    · clear i0 i1 i2 i3
      go_wp2_with fail
      refine (c32_calls _ B g _ HS.out.cur HS.out.size).mono ?_
      rintro e wn ⟨rfl, hb, hf⟩
      have hs2 := HS.out.call hb hf
      have hc : wn.cell? ⟨bx, 4, none⟩ = some (.int .i64 0) := blk_cell hs2.x 4
      have hz : wn.frozen? ⟨bx, 4, none⟩ = false := blk_frozen hs2.x 4
      replace HS := Aside0.mk (hs2.store 4 (.int .i64 (nm ((((((fieldsC l at_ 22).adv 2).adv 2).adv 2).adv 2).next 4))) (X' := #[.int .i64 (nm ((fieldsC l at_ 22).next 2)), .int .i64 (nm (((fieldsC l at_ 22).adv 2).next 2)), .int .i64 (nm ((((fieldsC l at_ 22).adv 2).adv 2).next 2)), .int .i64 (nm (((((fieldsC l at_ 22).adv 2).adv 2).adv 2).next 2)), .int .i64 (nm ((((((fieldsC l at_ 22).adv 2).adv 2).adv 2).adv 2).next 4)), .int .i64 0, .string ⟨#[]⟩]) rfl)
      clear hs2 hb hf
      go_wp2_with fail
      clear hc hz
      refine (c32_calls _ B g _ HS.out.cur HS.out.size).mono ?_
      rintro e wn ⟨rfl, hb, hf⟩
      have hs2 := HS.out.call hb hf
      have hc : wn.cell? ⟨bx, 5, none⟩ = some (.int .i64 0) := blk_cell hs2.x 5
      have hz : wn.frozen? ⟨bx, 5, none⟩ = false := blk_frozen hs2.x 5
      replace HS := Aside0.mk (hs2.store 5 (.int .i64 (nm (((((((fieldsC l at_ 22).adv 2).adv 2).adv 2).adv 2).adv 4).next 4))) (X' := #[.int .i64 (nm ((fieldsC l at_ 22).next 2)), .int .i64 (nm (((fieldsC l at_ 22).adv 2).next 2)), .int .i64 (nm ((((fieldsC l at_ 22).adv 2).adv 2).next 2)), .int .i64 (nm (((((fieldsC l at_ 22).adv 2).adv 2).adv 2).next 2)), .int .i64 (nm ((((((fieldsC l at_ 22).adv 2).adv 2).adv 2).adv 2).next 4)), .int .i64 (nm (((((((fieldsC l at_ 22).adv 2).adv 2).adv 2).adv 2).adv 4).next 4)), .string ⟨#[]⟩]) rfl)
      clear hs2 hb hf
      go_wp2_with fail
      clear hc hz
      refine (c16_calls _ B g _ HS.out.cur HS.out.size).mono ?_
      rintro e wn ⟨rfl, hb, hf⟩
      have hnm := nm_next HS.out.cur (n := 2) (by omega)
      have HNM := Aside0.mk hnm
      replace HS := Aside0.mk (HS.out.call hb hf)
      clear hb hf hnm
      go_wp2_with fail
      have hblk := blk_new wn (.cells #[.int .i64 (nm ((((((((fieldsC l at_ 22).adv 2).adv 2).adv 2).adv 2).adv 4).adv 4).next 2))] 3)
      replace HS := Aside0.mk (HS.out.below (below_alloc (Below.refl _ wn) (.cells #[.int .i64 (nm ((((((((fieldsC l at_ 22).adv 2).adv 2).adv 2).adv 2).adv 4).adv 4).next 2))] 3)))
      have hC2 := C_below' HC.out (by rw [HRX.out]; exact HS.out.bel)
      have hT2 := texts_calls (wn.alloc (.cells #[.int .i64 (nm ((((((((fieldsC l at_ 22).adv 2).adv 2).adv 2).adv 2).adv 4).adv 4).next 2))] 3)) A cp l (at_ + 22) (some ⟨wn.heap.size, 0, none⟩) 1 [nm ((((((((fieldsC l at_ 22).adv 2).adv 2).adv 2).adv 2).adv 4).adv 4).next 2)] hC2 hcp hl b1 b3 (C_block hblk rfl (by simp)) (by simp) (fun n hn => by rw [List.mem_singleton.1 hn]; exact HNM.out)
      generalize wn.alloc (.cells #[.int .i64 (nm ((((((((fieldsC l at_ 22).adv 2).adv 2).adv 2).adv 2).adv 4).adv 4).next 2))] 3) = w3 at HS hT2 ⊢
      have HT2 := Aside0.mk hT2
      clear hT2 hblk hC2
      refine HT2.out.mono ?_
      rintro e w4 hpost
      obtain ⟨A9, c9, rfl, hR9, hbel⟩ := hpost.2 _ _ HT.out
      obtain ⟨ad, hA9, hrow⟩ := ReadsOf.at_ (Kd.reads_of_C (enc := Value.string) (d := (⟨#[]⟩ : ByteArray)) (h1 := fun _ => rfl) (Kd.R_reads' hR9).2.2) 0 (by omega) (by simp)
      subst hA9
      replace hrow : w4.cell? ad = some (.string s) := hrow
      have hS4 := HS.out.below (hbel.mono (Nat.le_refl _))
      have HS4 := Aside0.mk (hS4.store 6 (.string s) (X' := #[.int .i64 (nm ((fieldsC l at_ 22).next 2)), .int .i64 (nm (((fieldsC l at_ 22).adv 2).next 2)), .int .i64 (nm ((((fieldsC l at_ 22).adv 2).adv 2).next 2)), .int .i64 (nm (((((fieldsC l at_ 22).adv 2).adv 2).adv 2).next 2)), .int .i64 (nm ((((((fieldsC l at_ 22).adv 2).adv 2).adv 2).adv 2).next 4)), .int .i64 (nm (((((((fieldsC l at_ 22).adv 2).adv 2).adv 2).adv 2).adv 4).next 4)), .string s]) rfl)
      have x0 : w4.cell? ⟨bx, 0, none⟩ = some (.int .i64 (nm ((fieldsC l at_ 22).next 2))) := blk_cell hS4.x 0
      have y0 : w4.cell? ⟨rx, 0, none⟩ = some (.int .i64 0) := blk_cell hS4.r 0
      have z0 : w4.frozen? ⟨rx, 0, none⟩ = false := blk_frozen hS4.r 0
      have x1 : w4.cell? ⟨bx, 1, none⟩ = some (.int .i64 (nm (((fieldsC l at_ 22).adv 2).next 2))) := blk_cell hS4.x 1
      have y1 : w4.cell? ⟨rx, 1, none⟩ = some (.int .i64 0) := blk_cell hS4.r 1
      have z1 : w4.frozen? ⟨rx, 1, none⟩ = false := blk_frozen hS4.r 1
      have x2 : w4.cell? ⟨bx, 2, none⟩ = some (.int .i64 (nm ((((fieldsC l at_ 22).adv 2).adv 2).next 2))) := blk_cell hS4.x 2
      have y2 : w4.cell? ⟨rx, 2, none⟩ = some (.int .i64 0) := blk_cell hS4.r 2
      have z2 : w4.frozen? ⟨rx, 2, none⟩ = false := blk_frozen hS4.r 2
      have x3 : w4.cell? ⟨bx, 3, none⟩ = some (.int .i64 (nm (((((fieldsC l at_ 22).adv 2).adv 2).adv 2).next 2))) := blk_cell hS4.x 3
      have y3 : w4.cell? ⟨rx, 3, none⟩ = some (.int .i64 0) := blk_cell hS4.r 3
      have z3 : w4.frozen? ⟨rx, 3, none⟩ = false := blk_frozen hS4.r 3
      have x4 : w4.cell? ⟨bx, 4, none⟩ = some (.int .i64 (nm ((((((fieldsC l at_ 22).adv 2).adv 2).adv 2).adv 2).next 4))) := blk_cell hS4.x 4
      have y4 : w4.cell? ⟨rx, 4, none⟩ = some (.int .i64 0) := blk_cell hS4.r 4
      have z4 : w4.frozen? ⟨rx, 4, none⟩ = false := blk_frozen hS4.r 4
      have x5 : w4.cell? ⟨bx, 5, none⟩ = some (.int .i64 (nm (((((((fieldsC l at_ 22).adv 2).adv 2).adv 2).adv 2).adv 4).next 4))) := blk_cell hS4.x 5
      have y5 : w4.cell? ⟨rx, 5, none⟩ = some (.int .i64 0) := blk_cell hS4.r 5
      have z5 : w4.frozen? ⟨rx, 5, none⟩ = false := blk_frozen hS4.r 5
      have x6 : w4.cell? ⟨bx, 6, none⟩ = some (.string ⟨#[]⟩) := blk_cell hS4.x 6
      have y6 : w4.cell? ⟨rx, 6, none⟩ = some (.string ⟨#[]⟩) := blk_cell hS4.r 6
      have z6 : w4.frozen? ⟨rx, 6, none⟩ = false := blk_frozen hS4.r 6
      have zz : w4.frozen? ⟨bx, 6, none⟩ = false := blk_frozen hS4.x 6
      have hrb : rx ≠ bx := by have := hS4.h1; have := hS4.h2; have := hS4.h3; omega
      clear hpost hbel hS4 HS HT2 hR9
      go_wp2_with fail
      have HR := Aside0.mk HS4.out.r
      have HG := Aside0.mk HS4.out.bel
      refine bodyPost_ret (results_list (rs := [.cell 4 57, .tmp 5, .tmp 6]) rfl (by simp) (.cell rx 57 #[.int .i64 (nm ((fieldsC l at_ 22).next 2)), .int .i64 (nm (((fieldsC l at_ 22).adv 2).next 2)), .int .i64 (nm ((((fieldsC l at_ 22).adv 2).adv 2).next 2)), .int .i64 (nm (((((fieldsC l at_ 22).adv 2).adv 2).adv 2).next 2)), .int .i64 (nm ((((((fieldsC l at_ 22).adv 2).adv 2).adv 2).adv 2).next 4)), .int .i64 (nm (((((((fieldsC l at_ 22).adv 2).adv 2).adv 2).adv 2).adv 4).next 4)), .string s] (0, 0) _ rfl (blk_put (cs := #[.int .i64 (nm ((fieldsC l at_ 22).next 2)), .int .i64 (nm (((fieldsC l at_ 22).adv 2).next 2)), .int .i64 (nm ((((fieldsC l at_ 22).adv 2).adv 2).next 2)), .int .i64 (nm (((((fieldsC l at_ 22).adv 2).adv 2).adv 2).next 2)), .int .i64 (nm ((((((fieldsC l at_ 22).adv 2).adv 2).adv 2).adv 2).next 4)), .int .i64 (nm (((((((fieldsC l at_ 22).adv 2).adv 2).adv 2).adv 2).adv 4).next 4)), .string ⟨#[]⟩]) (cs' := #[.int .i64 (nm ((fieldsC l at_ 22).next 2)), .int .i64 (nm (((fieldsC l at_ 22).adv 2).next 2)), .int .i64 (nm ((((fieldsC l at_ 22).adv 2).adv 2).next 2)), .int .i64 (nm (((((fieldsC l at_ 22).adv 2).adv 2).adv 2).next 2)), .int .i64 (nm ((((((fieldsC l at_ 22).adv 2).adv 2).adv 2).adv 2).next 4)), .int .i64 (nm (((((((fieldsC l at_ 22).adv 2).adv 2).adv 2).adv 2).adv 4).next 4)), .string s]) (blk_put (cs := #[.int .i64 (nm ((fieldsC l at_ 22).next 2)), .int .i64 (nm (((fieldsC l at_ 22).adv 2).next 2)), .int .i64 (nm ((((fieldsC l at_ 22).adv 2).adv 2).next 2)), .int .i64 (nm (((((fieldsC l at_ 22).adv 2).adv 2).adv 2).next 2)), .int .i64 (nm ((((((fieldsC l at_ 22).adv 2).adv 2).adv 2).adv 2).next 4)), .int .i64 0, .string ⟨#[]⟩]) (cs' := #[.int .i64 (nm ((fieldsC l at_ 22).next 2)), .int .i64 (nm (((fieldsC l at_ 22).adv 2).next 2)), .int .i64 (nm ((((fieldsC l at_ 22).adv 2).adv 2).next 2)), .int .i64 (nm (((((fieldsC l at_ 22).adv 2).adv 2).adv 2).next 2)), .int .i64 (nm ((((((fieldsC l at_ 22).adv 2).adv 2).adv 2).adv 2).next 4)), .int .i64 (nm (((((((fieldsC l at_ 22).adv 2).adv 2).adv 2).adv 2).adv 4).next 4)), .string ⟨#[]⟩]) (blk_put (cs := #[.int .i64 (nm ((fieldsC l at_ 22).next 2)), .int .i64 (nm (((fieldsC l at_ 22).adv 2).next 2)), .int .i64 (nm ((((fieldsC l at_ 22).adv 2).adv 2).next 2)), .int .i64 (nm (((((fieldsC l at_ 22).adv 2).adv 2).adv 2).next 2)), .int .i64 0, .int .i64 0, .string ⟨#[]⟩]) (cs' := #[.int .i64 (nm ((fieldsC l at_ 22).next 2)), .int .i64 (nm (((fieldsC l at_ 22).adv 2).next 2)), .int .i64 (nm ((((fieldsC l at_ 22).adv 2).adv 2).next 2)), .int .i64 (nm (((((fieldsC l at_ 22).adv 2).adv 2).adv 2).next 2)), .int .i64 (nm ((((((fieldsC l at_ 22).adv 2).adv 2).adv 2).adv 2).next 4)), .int .i64 0, .string ⟨#[]⟩]) (blk_put (cs := #[.int .i64 (nm ((fieldsC l at_ 22).next 2)), .int .i64 (nm (((fieldsC l at_ 22).adv 2).next 2)), .int .i64 (nm ((((fieldsC l at_ 22).adv 2).adv 2).next 2)), .int .i64 0, .int .i64 0, .int .i64 0, .string ⟨#[]⟩]) (cs' := #[.int .i64 (nm ((fieldsC l at_ 22).next 2)), .int .i64 (nm (((fieldsC l at_ 22).adv 2).next 2)), .int .i64 (nm ((((fieldsC l at_ 22).adv 2).adv 2).next 2)), .int .i64 (nm (((((fieldsC l at_ 22).adv 2).adv 2).adv 2).next 2)), .int .i64 0, .int .i64 0, .string ⟨#[]⟩]) (blk_put (cs := #[.int .i64 (nm ((fieldsC l at_ 22).next 2)), .int .i64 (nm (((fieldsC l at_ 22).adv 2).next 2)), .int .i64 0, .int .i64 0, .int .i64 0, .int .i64 0, .string ⟨#[]⟩]) (cs' := #[.int .i64 (nm ((fieldsC l at_ 22).next 2)), .int .i64 (nm (((fieldsC l at_ 22).adv 2).next 2)), .int .i64 (nm ((((fieldsC l at_ 22).adv 2).adv 2).next 2)), .int .i64 0, .int .i64 0, .int .i64 0, .string ⟨#[]⟩]) (blk_put (cs := #[.int .i64 (nm ((fieldsC l at_ 22).next 2)), .int .i64 0, .int .i64 0, .int .i64 0, .int .i64 0, .int .i64 0, .string ⟨#[]⟩]) (cs' := #[.int .i64 (nm ((fieldsC l at_ 22).next 2)), .int .i64 (nm (((fieldsC l at_ 22).adv 2).next 2)), .int .i64 0, .int .i64 0, .int .i64 0, .int .i64 0, .string ⟨#[]⟩]) (blk_put (cs := #[.int .i64 0, .int .i64 0, .int .i64 0, .int .i64 0, .int .i64 0, .int .i64 0, .string ⟨#[]⟩]) (cs' := #[.int .i64 (nm ((fieldsC l at_ 22).next 2)), .int .i64 0, .int .i64 0, .int .i64 0, .int .i64 0, .int .i64 0, .string ⟨#[]⟩]) HR.out 0 (.int .i64 (nm ((fieldsC l at_ 22).next 2))) rfl) 1 (.int .i64 (nm (((fieldsC l at_ 22).adv 2).next 2))) rfl) 2 (.int .i64 (nm ((((fieldsC l at_ 22).adv 2).adv 2).next 2))) rfl) 3 (.int .i64 (nm (((((fieldsC l at_ 22).adv 2).adv 2).adv 2).next 2))) rfl) 4 (.int .i64 (nm ((((((fieldsC l at_ 22).adv 2).adv 2).adv 2).adv 2).next 4))) rfl) 5 (.int .i64 (nm (((((((fieldsC l at_ 22).adv 2).adv 2).adv 2).adv 2).adv 4).next 4))) rfl) 6 (.string s) rfl) Try.underlying57 rfl Try.infoE (.tmp (.tmp .nil)))) rfl ?_
      have hs := (Frm.setCell (Frm.setCell (Frm.setCell (Frm.setCell (Frm.setCell (Frm.setCell (Frm.setCell (Frm.refl (fun q => q = rx) (w4.setCell ⟨bx, 6, none⟩ (.string s))) (p := ⟨rx, 0, none⟩) (.inl rfl) (.int .i64 (nm ((fieldsC l at_ 22).next 2)))) (p := ⟨rx, 1, none⟩) (.inl rfl) (.int .i64 (nm (((fieldsC l at_ 22).adv 2).next 2)))) (p := ⟨rx, 2, none⟩) (.inl rfl) (.int .i64 (nm ((((fieldsC l at_ 22).adv 2).adv 2).next 2)))) (p := ⟨rx, 3, none⟩) (.inl rfl) (.int .i64 (nm (((((fieldsC l at_ 22).adv 2).adv 2).adv 2).next 2)))) (p := ⟨rx, 4, none⟩) (.inl rfl) (.int .i64 (nm ((((((fieldsC l at_ 22).adv 2).adv 2).adv 2).adv 2).next 4)))) (p := ⟨rx, 5, none⟩) (.inl rfl) (.int .i64 (nm (((((((fieldsC l at_ 22).adv 2).adv 2).adv 2).adv 2).adv 4).next 4)))) (p := ⟨rx, 6, none⟩) (.inl rfl) (.string s))
      exact ⟨rfl, by rw [HRX.out]; exact below_sets HG.out HRX.out hs⟩
theorem St.drew {w wr : World} {B g bx rx : Nat} {TX TR : TypeId} {c : CS} {X R : Array Value} (h : St w B g bx rx TX TR wr c X R) : St w B g bx rx TX TR wr.drew c X R :=
  ⟨h.cur, h.x, h.r, below_drew1 h.bel, h.size, h.h1, h.h2, h.h3, h.hw⟩

end Go.Proofs.Ytkmnhlhpmfkloaa.Fld

/- What record's getters answer, as one function each. -/
namespace Go.Proofs.Ytkmnhlhpmfkloaa.Fld
open Go.RowKit Go.Proofs.YtkmnhlhpmfkloaaW.PrintWords Go.Proofs.YtkmnhlhpmfkloaaW.PrintLast Go.Proofs.YtkmnhlhpmfkloaaW.PrintMore Go.Proofs.Ytkmnhlhpmfkloaa.Mem
set_option linter.unusedVariables false
set_option linter.unusedSimpArgs false

def getEndF (l : List Int) (at_ : Int) : Int × Int × Int × Int × Int × Int × ByteArray × Int × Int :=
  if fieldsE l at_ 22 101010256 = 0 then (match textsF l (at_ + 22).toNat [nm ((((((((fieldsC l at_ 22).adv 2).adv 2).adv 2).adv 2).adv 4).adv 4).next 2)] with
    | some ([s1], b) => (nm ((fieldsC l at_ 22).next 2), nm (((fieldsC l at_ 22).adv 2).next 2), nm ((((fieldsC l at_ 22).adv 2).adv 2).next 2), nm (((((fieldsC l at_ 22).adv 2).adv 2).adv 2).next 2), nm ((((((fieldsC l at_ 22).adv 2).adv 2).adv 2).adv 2).next 4), nm (((((((fieldsC l at_ 22).adv 2).adv 2).adv 2).adv 2).adv 4).next 4), s1, (b : Int), 0)
    | _ => (0, 0, 0, 0, 0, 0, ⟨#[]⟩, 0, 122))
  else (0, 0, 0, 0, 0, 0, ⟨#[]⟩, 0, fieldsE l at_ 22 101010256)
def getLocalF (l : List Int) (at_ : Int) : Int × Int × Int × Int × Int × Int × Int × Int × ByteArray × ByteArray × Int × Int :=
  if fieldsE l at_ 30 67324752 = 0 then (match textsF l (at_ + 30).toNat [nm ((((((((((fieldsC l at_ 30).adv 2).adv 2).adv 2).adv 2).adv 2).adv 4).adv 4).adv 4).next 2), nm (((((((((((fieldsC l at_ 30).adv 2).adv 2).adv 2).adv 2).adv 2).adv 4).adv 4).adv 4).adv 2).next 2)] with
    | some ([s1, s2], b) => (nm ((fieldsC l at_ 30).next 2), nm (((fieldsC l at_ 30).adv 2).next 2), nm ((((fieldsC l at_ 30).adv 2).adv 2).next 2), nm (((((fieldsC l at_ 30).adv 2).adv 2).adv 2).next 2), nm ((((((fieldsC l at_ 30).adv 2).adv 2).adv 2).adv 2).next 2), nm (((((((fieldsC l at_ 30).adv 2).adv 2).adv 2).adv 2).adv 2).next 4) % 4294967296, nm ((((((((fieldsC l at_ 30).adv 2).adv 2).adv 2).adv 2).adv 2).adv 4).next 4), nm (((((((((fieldsC l at_ 30).adv 2).adv 2).adv 2).adv 2).adv 2).adv 4).adv 4).next 4), s1, s2, (b : Int), 0)
    | _ => (0, 0, 0, 0, 0, 0, 0, 0, ⟨#[]⟩, ⟨#[]⟩, 0, 122))
  else (0, 0, 0, 0, 0, 0, 0, 0, ⟨#[]⟩, ⟨#[]⟩, 0, fieldsE l at_ 30 67324752)
def getCentralF (l : List Int) (at_ : Int) : Int × Int × Int × Int × Int × Int × Int × Int × ByteArray × ByteArray × Int × Int × Int × Int × Int × ByteArray × Int × Int :=
  if fieldsE l at_ 46 33639248 = 0 then (match textsF l (at_ + 46).toNat [nm (((((((((((fieldsC l at_ 46).adv 2).adv 2).adv 2).adv 2).adv 2).adv 2).adv 4).adv 4).adv 4).next 2), nm ((((((((((((fieldsC l at_ 46).adv 2).adv 2).adv 2).adv 2).adv 2).adv 2).adv 4).adv 4).adv 4).adv 2).next 2), nm (((((((((((((fieldsC l at_ 46).adv 2).adv 2).adv 2).adv 2).adv 2).adv 2).adv 4).adv 4).adv 4).adv 2).adv 2).next 2)] with
    | some ([s1, s2, s3], b) => (nm (((fieldsC l at_ 46).adv 2).next 2), nm ((((fieldsC l at_ 46).adv 2).adv 2).next 2), nm (((((fieldsC l at_ 46).adv 2).adv 2).adv 2).next 2), nm ((((((fieldsC l at_ 46).adv 2).adv 2).adv 2).adv 2).next 2), nm (((((((fieldsC l at_ 46).adv 2).adv 2).adv 2).adv 2).adv 2).next 2), nm ((((((((fieldsC l at_ 46).adv 2).adv 2).adv 2).adv 2).adv 2).adv 2).next 4) % 4294967296, nm (((((((((fieldsC l at_ 46).adv 2).adv 2).adv 2).adv 2).adv 2).adv 2).adv 4).next 4), nm ((((((((((fieldsC l at_ 46).adv 2).adv 2).adv 2).adv 2).adv 2).adv 2).adv 4).adv 4).next 4), s1, s2, nm ((fieldsC l at_ 46).next 2), nm ((((((((((((((fieldsC l at_ 46).adv 2).adv 2).adv 2).adv 2).adv 2).adv 2).adv 4).adv 4).adv 4).adv 2).adv 2).adv 2).next 2), nm (((((((((((((((fieldsC l at_ 46).adv 2).adv 2).adv 2).adv 2).adv 2).adv 2).adv 4).adv 4).adv 4).adv 2).adv 2).adv 2).adv 2).next 2), nm ((((((((((((((((fieldsC l at_ 46).adv 2).adv 2).adv 2).adv 2).adv 2).adv 2).adv 4).adv 4).adv 4).adv 2).adv 2).adv 2).adv 2).adv 2).next 4), nm (((((((((((((((((fieldsC l at_ 46).adv 2).adv 2).adv 2).adv 2).adv 2).adv 2).adv 4).adv 4).adv 4).adv 2).adv 2).adv 2).adv 2).adv 2).adv 4).next 4), s3, (b : Int), 0)
    | _ => (0, 0, 0, 0, 0, 0, 0, 0, ⟨#[]⟩, ⟨#[]⟩, 0, 0, 0, 0, 0, ⟨#[]⟩, 0, 122))
  else (0, 0, 0, 0, 0, 0, 0, 0, ⟨#[]⟩, ⟨#[]⟩, 0, 0, 0, 0, 0, ⟨#[]⟩, 0, fieldsE l at_ 46 33639248)
theorem texts_none1 {l : List Int} {a : Nat} {n : Int} (h : ∀ (s : ByteArray) (b : Nat), textsF l a [n] = some ([s], b) → False) : textsF l a [n] = none := by
  cases hr : textsF l a [n] with
  | none => rfl
  | some p =>
    obtain ⟨ts, b⟩ := p
    have hl := textsF_len hr
    match ts, hl with
    | [s], _ => exact (h s b hr).elim
theorem texts_none2 {l : List Int} {a : Nat} {n m : Int} (h : ∀ (s t : ByteArray) (b : Nat), textsF l a [n, m] = some ([s, t], b) → False) : textsF l a [n, m] = none := by
  cases hr : textsF l a [n, m] with
  | none => rfl
  | some p =>
    obtain ⟨ts, b⟩ := p
    have hl := textsF_len hr
    match ts, hl with
    | [s, t], _ => exact (h s t b hr).elim
theorem texts_none3 {l : List Int} {a : Nat} {n m q : Int} (h : ∀ (s t u : ByteArray) (b : Nat), textsF l a [n, m, q] = some ([s, t, u], b) → False) : textsF l a [n, m, q] = none := by
  cases hr : textsF l a [n, m, q] with
  | none => rfl
  | some p =>
    obtain ⟨ts, b⟩ := p
    have hl := textsF_len hr
    match ts, hl with
    | [s, t, u], _ => exact (h s t u b hr).elim
end Go.Proofs.Ytkmnhlhpmfkloaa.Fld
