/- Merged texts: FldD, FldE, FldP, FldF, FldG, FldM, FldN. -/
import Derived.Test.YtkmnhlhpmfkloaaFU0
import Derived.Laws.BitsAllLaws
import Derived.Laws.BitsLemmas
import Derived.Lib.Strings
import Derived.Lib.IndexBytes
/- The cursor of fields: what it holds, and what each of its calls does, walked by hand. -/
namespace Go.Proofs.Ytkmnhlhpmfkloaa.Fld
open Go.RowKit Go.Proofs.YtkmnhlhpmfkloaaW.PrintWords Go.Proofs.YtkmnhlhpmfkloaaW.PrintLast Go.Proofs.YtkmnhlhpmfkloaaW.PrintMore Go.Proofs.Ytkmnhlhpmfkloaa.Mem
set_option linter.unusedVariables false
set_option linter.unusedSimpArgs false

/-- A cursor: its bytes, its place, its first error. -/
structure CS where
  data : List Int
  at_ : Nat
  err : Int
def CS.next (c : CS) (n : Nat) : List Int := if c.err ≠ 0 then [] else if c.data.length - c.at_ < n then [] else (c.data.take (c.at_ + n)).drop c.at_
def CS.adv (c : CS) (n : Nat) : CS := if c.err ≠ 0 then c else if c.data.length - c.at_ < n then { c with err := 20 } else { c with at_ := c.at_ + n }

def Cur (w : World) (B g : Nat) (c : CS) : Prop :=
  ∃ A cp, w.heap[g]? = some (.cells #[.slice A c.data.length cp, .int .i64 c.at_, .int .i64 c.err] 127 (0, 0)) ∧ Kd.R (Kd.int .u8) 5 w 0 (fun k => k < B) (.slice A c.data.length cp) c.data ∧
    g < B ∧ c.at_ ≤ c.data.length ∧ c.data.length ≤ 140737488355328 ∧ ∀ x ∈ c.data, 0 ≤ x ∧ x < 256
section
variable {w w1 : World} {S1 : Nat → Prop} {B g : Nat} {c : CS}
theorem Cur.frm (h : Cur w B g c) (hF : Frm S1 w w1) (hn : ∀ k, k < B → ¬ S1 k) : Cur w1 B g c := by
  obtain ⟨A, cp, hg, hr, hb, h1, h2⟩ := h
  exact ⟨A, cp, hF.blk hg (hn g hb), Kd.R_step hr (fun k hk hlt => hF.block k hlt (hn k hk)), hb, h1, h2⟩
theorem Cur.mono {B1 : Nat} (h : Cur w B g c) (hb : B ≤ B1) : Cur w B1 g c := by
  obtain ⟨A, cp, hg, hr, hb', h1, h2⟩ := h
  exact ⟨A, cp, hg, Kd.R_mono hr (fun k hk => Nat.lt_of_lt_of_le hk hb), by omega, h1, h2⟩
theorem row_set {A : Option Addr} {n cp : Nat} {xs : List Int} {cells : Array Value} {ok : Nat → Prop} (hg : w.heap[g]? = some (.cells cells 127 (0, 0))) (hr : Kd.R (Kd.int .u8) 5 w 0 ok (.slice A n cp) xs) (j : Nat) (u : Value) :
    Kd.R (Kd.int .u8) 5 (w.setCell ⟨g, j, none⟩ u) 0 ok (.slice A n cp) xs :=
  Kd.R_mono (Kd.R_far (p := ⟨g, j, none⟩) (Kd.R_types hr hg (by intro q hq; simp [Kd.int, Kd.scalar] at hq; omega)) (fun _ hk => hk.2) u) (fun _ hk => hk.1)
theorem Cur.set {u : Value} {j : Nat} {c' : CS} (h : Cur w B g c) (hj : ∀ A cp, (#[.slice A c.data.length cp, .int .i64 c.at_, .int .i64 c.err] : Array Value).setIfInBounds j u = #[.slice A c'.data.length cp, .int .i64 c'.at_, .int .i64 c'.err])
    (hd : c'.data = c.data) (ha : c'.at_ ≤ c.data.length) : Cur (w.setCell ⟨g, j, none⟩ u) B g c' := by
  obtain ⟨A, cp, hg, hr, hb', h1, h2⟩ := h
  refine ⟨A, cp, by rw [blk_set hg j u, hj], ?_, hb', by rw [hd]; exact ha, by rw [hd]; exact h2.1, by rw [hd]; exact h2.2⟩
  rw [hd]
  exact row_set hg hr j u
end

set_option maxHeartbeats 4000000 in
set_option maxRecDepth 100000 in
theorem next_calls (w : World) (B g : Nat) (c : CS) (n : Nat) (h : Cur w B g c) (hn : (n : Int) ≤ 4611686018427387904) : Calls Try.prog 80 #[.pointer (some ⟨g, 0, none⟩), .int .i64 n] w fun e w' =>
    ∃ A cp, e = .returned (.slice A (c.next n).length cp) ∧ (c.next n).length ≤ cp ∧ Kd.C (Kd.int .u8) w' A (c.next n).length (c.next n) ∧ Cur w' B g (c.adv n) ∧ Frm (fun k => k = g) w w' := by
  have HH := Aside0.mk h
  obtain ⟨A, cp, hg, hr, hgb, h1, h2⟩ := h
  have hby := h2.2
  replace h2 := h2.1
  have c2 : w.cell? ⟨g, 2, none⟩ = some (.int .i64 c.err) := blk_cell hg 2
  have c1 : w.cell? ⟨g, 1, none⟩ = some (.int .i64 c.at_) := blk_cell hg 1
  have c0 : w.cell? ⟨g, 0, none⟩ = some (.slice A c.data.length cp) := blk_cell hg 0
  have f2 : w.frozen? ⟨g, 2, none⟩ = false := blk_frozen hg 2
  have f1 : w.frozen? ⟨g, 1, none⟩ = false := blk_frozen hg 1
  have hneg : decide ((n : Int) < 0) = false := decide_eq_false (by omega)
  by_cases he : c.err = 0
  · have heb : (c.err != 0) = false := by simpa using he
    by_cases hroom : c.data.length - c.at_ < n
    · have hroomb : decide ((c.data.length : Int) - (c.at_ : Int) < n) = true := decide_eq_true (by omega)
      have e1 : c.next n = [] := by unfold CS.next; rw [if_neg (by omega), if_pos hroom]
      have e2 : c.adv n = { c with err := 20 } := by unfold CS.adv; rw [if_neg (by omega), if_pos hroom]
      rw [e1, e2]
      have HR := Aside0.mk (Cur.set (u := .int .i64 20) (j := 2) (c' := { c with err := 20 }) HH.out (fun _ _ => rfl) rfl h1)
      clear e1 e2 he hr hg hgb
      have b1 : (0 : Int) ≤ (c.data.length : Int) - (c.at_ : Int) := by omega
      have b2 : (c.data.length : Int) - (c.at_ : Int) ≤ 140737488355328 := by omega
      go_enter Try.func80, Try.ntmps80
      go_wp2
      go_quiet (fail)
      go_wp2
      go_ret
      exact ⟨none, 0, rfl, Nat.le_refl _, (Kd.R_reads (Kd.R_nil (Kd.int .u8) 5 _ 0 (fun _ => True))).elim fun A1 h1 => h1.elim fun c1 h1 => by
        have h3 := h1.1
        simp only [Value.slice.injEq] at h3
        rw [h3.1]
        exact h1.2.2, HR.out, ((Frm.refl (fun k => k = g) w).setCell (p := ⟨g, 2, none⟩) (.inl rfl) _).drewN nq⟩
    · have hroomb : decide ((c.data.length : Int) - (c.at_ : Int) < n) = false := decide_eq_false (by omega)
      have e1 : c.next n = (c.data.take (c.at_ + n)).drop c.at_ := by unfold CS.next; rw [if_neg (by omega), if_neg hroom]
      have e2 : c.adv n = { c with at_ := c.at_ + n } := by unfold CS.adv; rw [if_neg (by omega), if_neg hroom]
      have hlen : ((c.data.take (c.at_ + n)).drop c.at_).length = n := by rw [List.length_drop, List.length_take]; omega
      rw [e1, e2]
      obtain ⟨_, hcp, hC⟩ := Kd.R_reads' hr
      obtain ⟨i0, hi0, hz0, hz1, hz2⟩ := info_parts Try.infoB
      obtain ⟨A1, hA1⟩ : ∃ A1, A1 = (if cp = c.at_ then A else A.map (·.add (c.at_ * (Kd.int .u8).sz))) := ⟨_, rfl⟩
      have hCm := Kd.C_mid (k := Kd.int .u8) (c := cp) (lo := c.at_) (hi := c.at_ + n) (Kd.R_reads' (row_set hg hr 1 (.int .i64 ((c.at_ : Int) + (n : Int))))).2.2 (by omega) (by omega) hcp
      rw [← hA1] at hCm
      have hcut : ∀ W : World, (Instr.slice 25 (.slice A c.data.length cp) (some (.int .i64 (c.at_ : Int))) (some (.int .i64 ((c.at_ : Int) + (n : Int)))) none).run Try.prog W = .ok (.slice A1 n (cp - c.at_)) W := by
        intro W
        have h := cut_mid (P := Try.prog) 25 5 .i64 .i64 Try.underlying25 hi0 1 hz1 A c.data.length cp (c.at_ : Int) ((c.at_ : Int) + (n : Int)) (by omega) (by omega) (by omega) hcp W
        rw [h, hA1]
        have t1 : ((c.at_ : Int) + (n : Int)).toNat - (c.at_ : Int).toNat = n := by omega
        have t2 : (c.at_ : Int).toNat = c.at_ := by omega
        rw [t1, t2]
        rfl
      have HL := Aside0.mk hlen
      have HC := Aside0.mk hCm
      have HR := Aside0.mk (Cur.set (u := .int .i64 ((c.at_ : Int) + (n : Int))) (j := 1) (c' := { c with at_ := c.at_ + n }) HH.out (fun A cp => by simp) rfl (by simp only; omega))
      have b1 : (0 : Int) ≤ (c.at_ : Int) + (n : Int) := by omega
      have b2 : (c.at_ : Int) + (n : Int) ≤ 140737488355328 := by omega
      have b3 : (0 : Int) ≤ (c.data.length : Int) - (c.at_ : Int) := by omega
      have b4 : (c.data.length : Int) - (c.at_ : Int) ≤ 140737488355328 := by omega
      have hle : n ≤ cp - c.at_ := by omega
      clear e1 e2 he hr hg hgb hA1 hCm hC hlen hi0 hz0 hz1 hz2
      go_enter Try.func80, Try.ntmps80
      go_wp2
      go_quiet (fail)
      go_wp2
      go_quiet (fail)
      go_wp2
      go_ret
      exact ⟨A1, cp - c.at_, by rw [HL.out]; rfl, by rw [HL.out]; exact hle, HC.out, HR.out, ((Frm.refl (fun k => k = g) w).setCell (p := ⟨g, 1, none⟩) (.inl rfl) _).drewN _⟩
  · have heb : (c.err != 0) = true := by simpa using he
    have e1 : c.next n = [] := by unfold CS.next; rw [if_pos he]
    have e2 : c.adv n = c := by unfold CS.adv; rw [if_pos he]
    rw [e1, e2]
    clear e1 e2 hr hg
    go_enter Try.func80, Try.ntmps80
    go_wp2
    go_ret
    exact ⟨none, 0, rfl, Nat.le_refl _, (Kd.R_reads (Kd.R_nil (Kd.int .u8) 5 _ 0 (fun _ => True))).elim fun A1 h1 => h1.elim fun c1 h1 => by
        have h3 := h1.1
        simp only [Value.slice.injEq] at h3
        rw [h3.1]
        exact h1.2.2, HH.out, Frm.refl _ _⟩

/-- A number out of its bytes, the lowest first. -/
def nm : List Int → Int
  | [] => 0
  | b :: t => b + 256 * nm t
theorem nm_range : ∀ (l : List Int), (∀ x ∈ l, 0 ≤ x ∧ x < 256) → 0 ≤ nm l ∧ nm l < 256 ^ l.length
  | [], _ => ⟨Int.le_refl _, by simp [nm]⟩
  | b :: t, h => by
    have h1 := nm_range t (fun x hx => h x (List.mem_cons_of_mem _ hx))
    have h2 := h b List.mem_cons_self
    rw [nm, List.length_cons, Int.pow_succ]
    omega
theorem next_mem {c : CS} {n : Nat} {x : Int} (hx : x ∈ c.next n) : x ∈ c.data := by
  unfold CS.next at hx
  split at hx
  · simp at hx
  · split at hx
    · simp at hx
    · exact List.mem_of_mem_take (List.mem_of_mem_drop hx)
theorem next_len {c : CS} {n : Nat} : (c.next n).length ≤ n := by
  unfold CS.next
  split
  · simp
  · split
    · simp
    · rw [List.length_drop, List.length_take]; omega
theorem ofInt_i64' (a : Nat) (ha : a < 9223372036854775808) : (BitVec.ofInt 64 (a : Int)).toNat = a := by
  rw [BitVec.ofInt_natCast, BitVec.toNat_ofNat]; exact Nat.mod_eq_of_lt (by omega)
theorem i64_or_nat' (a b : Nat) (ha : a < 9223372036854775808) (hb : b < 9223372036854775808) : bits .or .i64 (a : Int) (b : Int) = ((a ||| b : Nat) : Int) := by
  have hx : a ||| b < 2 ^ 63 := Nat.or_lt_two_pow (by omega) (by omega)
  show IntKind.i64.wrap ((BitVec.ofInt 64 (a : Int) ||| BitVec.ofInt 64 (b : Int)).toNat : Int) = _
  rw [BitVec.toNat_or, ofInt_i64' a ha, ofInt_i64' b hb, IntKind.wrap_i64]
  omega
theorem or_low (v x : Int) (hv0 : 0 ≤ v) (hv1 : v < 16777216) (hx0 : 0 ≤ x) (hx1 : x < 256) : bits .or .i64 (v * 256) x = x + 256 * v := by
  obtain ⟨a, rfl⟩ := Int.eq_ofNat_of_zero_le hv0
  obtain ⟨b, rfl⟩ := Int.eq_ofNat_of_zero_le hx0
  have h := i64_or_nat' (2 ^ 8 * a) b (by omega) (by omega)
  rw [← Nat.two_pow_add_eq_or_of_lt (by omega : b < 2 ^ 8)] at h
  have e : ((a : Int) * 256) = ((2 ^ 8 * a : Nat) : Int) := by omega
  rw [e, h]
  omega

set_option maxHeartbeats 4000000 in
set_option maxRecDepth 100000 in
theorem cnumber_calls (w : World) (B g : Nat) (c : CS) (n : Nat) (h : Cur w B g c) (hn : n ≤ 4) (hB : B ≤ w.heap.size) : Calls Try.prog 79 #[.pointer (some ⟨g, 0, none⟩), .int .i64 n] w fun e w' =>
    e = .returned (.int .i64 (nm (c.next n))) ∧ Cur w' B g (c.adv n) ∧ Frm (fun k => k = g) w w' := by
  have H1 := Aside0.mk (next_calls w B g c n h (by omega))
  have hby : ∀ x ∈ c.next n, 0 ≤ x ∧ x < 256 := fun x hx => by obtain ⟨_, _, _, _, _, _, _, hb⟩ := h; exact hb x (next_mem hx)
  have hlen : (c.next n).length ≤ 4 := Nat.le_trans next_len hn
  have HL := Aside0.mk hlen
  have HY := Aside0.mk hby
  clear h hby hlen
  generalize c.next n = part at *
  have b0 : (0 : Int) ≤ (part.length : Int) := by omega
  have b1 : (part.length : Int) ≤ 4 := by have := HL.out; omega
  go_enter Try.func79, Try.ntmps79
  go_wp2_with (first | (go_at_call 80; refine H1.out.mono ?_; rintro e w1 ⟨A, cp, rfl, hcp, hC, hcur, hF⟩))
  have HC := Aside0.mk hC
  have HU := Aside0.mk hcur
  have HF := Aside0.mk hF
  clear hC hcur hF hcp H1
  go_loopg [6, 7] 6 (fun gk v6 v7 wr => ∃ (j : Nat), v6 = .int .i64 (nm (part.drop j)) ∧ v7 = .int .i64 ((j : Int) - 1) ∧ (j : Int) ≤ part.length ∧ j + 1 ≤ gk ∧ wr = w1)
  case atStart => exact ⟨part.length, by simp [nm], rfl, by omega, by omega, rfl⟩
  case round =>
    obtain ⟨j, rfl, rfl, hj, hjk, rfl⟩ := hrel
    by_cases h0 : j = 0
    · subst h0
      go_wp2
      go_ret
      exact ⟨rfl, HU.out, HF.out⟩
    · obtain ⟨j, rfl⟩ : ∃ q, j = q + 1 := ⟨j - 1, by omega⟩
      have ej : (((j + 1 : Nat) : Int) - 1) = (j : Int) := by omega
      rw [ej]
      clear ej
      obtain ⟨ad, hA, hcell⟩ := ReadsOf.at_ (Kd.reads_of_C (enc := Value.int .u8) (d := (0 : Int)) (h1 := fun _ => rfl) HC.out) (j : Int) (by omega) (by omega)
      have hx := HY.out (rdOf 0 part (j : Int)) (by rw [rdOf, Int.toNat_natCast, List.getD_eq_getElem?_getD, List.getElem?_eq_getElem (by omega)]; exact List.getElem_mem _)
      rw [Int.toNat_natCast] at hcell
      subst hA
      have hr0 : 0 ≤ nm (part.drop (j + 1)) ∧ nm (part.drop (j + 1)) < 16777216 := by
        have h1 := nm_range (part.drop (j + 1)) (fun x hx => HY.out x (List.mem_of_mem_drop hx))
        have h2 : (part.drop (j + 1)).length ≤ 3 := by rw [List.length_drop]; omega
        have h3 : (256 : Int) ^ (part.drop (j + 1)).length ≤ 256 ^ 3 := by
          generalize (part.drop (j + 1)).length = q at h2
          match q, h2 with
          | 0, _ => decide
          | 1, _ => decide
          | 2, _ => decide
          | 3, _ => decide
        omega
      have hstep : nm (part.drop j) = rdOf 0 part (j : Int) + 256 * nm (part.drop (j + 1)) := by
        rw [List.drop_eq_getElem_cons (by omega : j < part.length), nm, rdOf, Int.toNat_natCast, List.getD_eq_getElem?_getD, List.getElem?_eq_getElem (by omega)]
        rfl
      have HST := Aside0.mk hstep
      clear hstep
      generalize rdOf 0 part (j : Int) = x at *
      generalize nm (part.drop (j + 1)) = v at *
      obtain ⟨hx0, hx1⟩ := hx
      obtain ⟨hv0, hv1⟩ := hr0
      have hor := or_low v x hv0 hv1 hx0 hx1
      rw [← HST.out] at hor
      have HOR := Aside0.mk hor
      clear hor
      go_wp2
      go_roundg (j + 1)
      case measure => omega
      case rel => exact ⟨j, by rw [HOR.out], rfl, by omega, by omega, rfl⟩

theorem c16_calls (w : World) (B g : Nat) (c : CS) (h : Cur w B g c) (hB : B ≤ w.heap.size) : Calls Try.prog 57 #[.pointer (some ⟨g, 0, none⟩)] w fun e w' =>
    e = .returned (.int .i64 (nm (c.next 2))) ∧ Cur w' B g (c.adv 2) ∧ Frm (fun k => k = g) w w' := by
  have H := Aside0.mk (cnumber_calls w B g c 2 h (by omega) hB)
  clear h
  go_enter Try.func57, Try.ntmps57
  go_wp2_with (go_at_call 79; refine H.out.mono ?_; rintro e w1 ⟨rfl, hb⟩)
  go_ret
  exact ⟨rfl, hb⟩
theorem c32_calls (w : World) (B g : Nat) (c : CS) (h : Cur w B g c) (hB : B ≤ w.heap.size) : Calls Try.prog 66 #[.pointer (some ⟨g, 0, none⟩)] w fun e w' =>
    e = .returned (.int .i64 (nm (c.next 4))) ∧ Cur w' B g (c.adv 4) ∧ Frm (fun k => k = g) w w' := by
  have H := Aside0.mk (cnumber_calls w B g c 4 h (by omega) hB)
  clear h
  go_enter Try.func66, Try.ntmps66
  go_wp2_with (go_at_call 79; refine H.out.mono ?_; rintro e w1 ⟨rfl, hb⟩)
  go_ret
  exact ⟨rfl, hb⟩
theorem ctext_calls (w : World) (B g : Nat) (c : CS) (n : Nat) (h : Cur w B g c) (hn : (n : Int) ≤ 4611686018427387904) : Calls Try.prog 58 #[.pointer (some ⟨g, 0, none⟩), .int .i64 n] w fun e w' =>
    e = .returned (.string (strOfNums (c.next n))) ∧ Cur w' B g (c.adv n) ∧ Frm (fun k => k = g) w w' := by
  have H := Aside0.mk (next_calls w B g c n h hn)
  clear h
  go_enter Try.func58, Try.ntmps58
  go_wp2_with (go_at_call 80; refine H.out.mono ?_; rintro e w1 ⟨A, cp, rfl, hcp, hC, hcur, hF⟩; have hcv := Kd.C_string (c := cp) Try.underlying25 Try.underlying5 Try.underlying9 hC)
  go_ret
  exact ⟨rfl, hcur, hF⟩
theorem left_calls (w : World) (B g : Nat) (c : CS) (h : Cur w B g c) : Calls Try.prog 56 #[.pointer (some ⟨g, 0, none⟩)] w fun e w' =>
    e = .returned (.int .i64 ((c.data.length : Int) - (c.at_ : Int))) ∧ Drawn0 w w' := by
  obtain ⟨A, cp, hg, hr, hb, h1, h2, h3⟩ := h
  have c1 : w.cell? ⟨g, 1, none⟩ = some (.int .i64 c.at_) := blk_cell hg 1
  have c0 : w.cell? ⟨g, 0, none⟩ = some (.slice A c.data.length cp) := blk_cell hg 0
  have b3 : (0 : Int) ≤ (c.data.length : Int) - (c.at_ : Int) := by omega
  have b4 : (c.data.length : Int) - (c.at_ : Int) ≤ 140737488355328 := by omega
  clear hr hg hb
  go_enter Try.func56, Try.ntmps56
  go_wp2
  go_quiet (fail)
  go_wp2
  go_ret
  exact ⟨rfl, ⟨_, rfl⟩⟩
theorem cerr_calls (w : World) (B g : Nat) (c : CS) (h : Cur w B g c) : Calls Try.prog 59 #[.pointer (some ⟨g, 0, none⟩)] w fun e w' => e = .returned (.int .i64 c.err) ∧ Drawn0 w w' := by
  obtain ⟨A, cp, hg, hr, hb, h1, h2, h3⟩ := h
  have c2 : w.cell? ⟨g, 2, none⟩ = some (.int .i64 c.err) := blk_cell hg 2
  clear hr hg hb
  go_enter Try.func59, Try.ntmps59
  go_wp2
  go_ret
  exact ⟨rfl, Drawn0.refl _⟩
theorem adv_data (c : CS) (n : Nat) : (c.adv n).data = c.data := by
  unfold CS.adv
  split
  · rfl
  · split <;> rfl
theorem nm_ok {c : CS} {n : Nat} (hy : ∀ x ∈ c.data, 0 ≤ x ∧ x < 256) (hn : n ≤ 4) : 0 ≤ nm (c.next n) ∧ nm (c.next n) ≤ 4294967295 := by
  have h1 := nm_range (c.next n) (fun x hx => hy x (next_mem hx))
  have h2 : (c.next n).length ≤ 4 := Nat.le_trans next_len hn
  have h3 : (256 : Int) ^ (c.next n).length ≤ 256 ^ 4 := by
    generalize (c.next n).length = q at h2
    match q, h2 with
    | 0, _ => decide
    | 1, _ => decide
    | 2, _ => decide
    | 3, _ => decide
    | 4, _ => decide
  omega
end Go.Proofs.Ytkmnhlhpmfkloaa.Fld

/- What record's getters begin with (fields) and end with (texts): walked by hand. -/
namespace Go.Proofs.Ytkmnhlhpmfkloaa.Fld
open Go.RowKit Go.Proofs.YtkmnhlhpmfkloaaW.PrintWords Go.Proofs.YtkmnhlhpmfkloaaW.PrintLast Go.Proofs.YtkmnhlhpmfkloaaW.PrintMore Go.Proofs.Ytkmnhlhpmfkloaa.Mem
set_option linter.unusedVariables false
set_option linter.unusedSimpArgs false

theorem C_news {w : World} {A : Option Addr} {l : List Int} (h : Kd.C (Kd.int .u8) w A l.length l) (hp : 0 < l.length) : ∃ ad, A = some ad ∧ ∀ j u, (l.map (Value.int .u8))[j]? = some u → w.cell? (ad.add j) = some u := by
  obtain ⟨ad, e, hc⟩ := (Kd.reads_of_C (enc := Value.int .u8) (d := (0 : Int)) (h1 := fun _ => rfl) h).2.2 hp
  refine ⟨ad, e, fun j u hu => ?_⟩
  rw [List.getElem?_map] at hu
  obtain ⟨x, hx, rfl⟩ := Option.map_eq_some_iff.1 hu
  have hj := (List.getElem?_eq_some_iff.1 hx).1
  rw [hc j hj, List.getD_eq_getElem?_getD, hx]
  rfl
theorem cur_made {w w1 : World} {l : List Int} {A : Option Addr} {cp : Nat} (hown : w1.ownsRow w.heap.size 5 1 (.slice A l.length cp) l.length (l.map (Value.int .u8))) (hb : Below w.heap.size w w1) (hl : l.length ≤ 140737488355328) (hy : ∀ x ∈ l, 0 ≤ x ∧ x < 256) :
    Cur (w1.alloc (.cells #[.slice A l.length cp, .int .i64 0, .int .i64 0] 127)) (w1.heap.size + 1) w1.heap.size ⟨l, 0, 0⟩ ∧ Below w.heap.size w (w1.alloc (.cells #[.slice A l.length cp, .int .i64 0, .int .i64 0] 127)) := by
  have hr : Kd.R (Kd.int .u8) 5 w1 0 (fun k => k < w1.heap.size + 1) (.slice A l.length cp) l :=
    Kd.R_of_own (own_weaken hown (Nat.zero_le _)) (fun k hk => Nat.lt_succ_of_lt (own_lt hown k hk))
  exact ⟨⟨A, cp, heap_alloc_new _ _, Kd.R_below hr (below_alloc (Below.refl _ _) _), Nat.lt_succ_self _, Nat.zero_le _, hl, hy⟩, below_alloc hb _⟩

set_option maxHeartbeats 4000000 in
set_option maxRecDepth 100000 in
theorem cnew_calls (w : World) (A : Option Addr) (cp : Nat) (l : List Int) (hC : Kd.C (Kd.int .u8) w A l.length l) (hcp : l.length ≤ cp) (hl : l.length ≤ 140737488355328) (hy : ∀ x ∈ l, 0 ≤ x ∧ x < 256) :
    Calls Try.prog 55 #[.slice A l.length cp] w fun e w' => ∃ g B, e = .returned (.pointer (some ⟨g, 0, none⟩)) ∧ w.heap.size ≤ g ∧ B ≤ w'.heap.size ∧ Cur w' B g ⟨l, 0, 0⟩ ∧ Below w.heap.size w w' := by
  obtain ⟨i0, hi0, hz0, hz1, hz2⟩ := info_parts Try.infoB
  by_cases h0 : l.length = 0
  · have hnil : l = [] := List.eq_nil_of_length_eq_zero h0
    subst hnil
    have H := Aside0.mk (cur_made (w := w) (w1 := w) (l := []) (A := none) (cp := 0) (own_nil _ _ _ _) (Below.refl _ _) (by simp) (by simp))
    clear hC hcp hl hy h0
    go_enter Try.func55, Try.ntmps55
    go_wp2_with (at_builtin; refine wpList_append_none_empty (by rfl) _ _ _ (by rfl) 5 i0 Try.underlying25 hi0 A cp ?a1 ?a2 ?a3; (case a1 => rfl); (case a2 => rfl))
    go_ret
    exact ⟨w.heap.size, w.heap.size + 1, rfl, Nat.le_refl _, by simp, H.out.1, H.out.2⟩
  · obtain ⟨ad, hA, hn⟩ := C_news hC (by omega)
    subst hA
    have HN := Aside0.mk hn
    have HY := Aside0.mk hy
    have hpos : 0 < l.length := by omega
    clear hn hC h0 hy
    go_enter Try.func55, Try.ntmps55
    go_wp2_with (at_builtin; refine wpList_append_lies _ (by rfl) _ _ _ (by rfl) w.heap.size 5 i0 _ 1 1 Try.underlying25 hi0 hz0 hz1 hz2 rfl (by omega) (.slice none 0 0) 0 [] ?b1 (own_nil _ _ _ _) ad l.length cp (l.map (Value.int .u8)) ?b2 ?b3 HN.out ?b5 hpos ?b7 ?b8 ?b9 w.heap.size ?b10 ?b11; (case b1 => rfl); (case b2 => rfl); (case b3 => simp); (case b5 => simp [Value.oneCell']); (case b7 => simp only [maxLen]; omega); (case b8 => omega); (case b9 => omega); (case b10 => rfl); intro gg cap w1 hown1 hgrow hat hlt)
    go_ret
    simp only [Nat.zero_add, List.nil_append] at hown1 ⊢
    have H := cur_made hown1 ⟨hgrow.os, hgrow.tape, hgrow.output, hgrow.size, fun k hk => hgrow.block k hk (by simp [Value.ownBlock])⟩ hl HY.out
    exact ⟨w1.heap.size, w1.heap.size + 1, rfl, hgrow.size, by simp, H.1, H.2⟩

/-- The error with which a record does not begin at a place; its fields. -/
def fieldsE (l : List Int) (at_ : Int) (n : Nat) (sign : Int) : Int :=
  if at_ < 0 ∨ (l.length : Int) < at_ then 1 else if (l.length : Int) - at_ < n then 122 else if nm ((l.take (at_.toNat + 4)).drop at_.toNat) ≠ sign then 123 else 0
def fieldsC (l : List Int) (at_ : Int) (n : Nat) : CS := ⟨(l.take (at_.toNat + n)).drop at_.toNat, 4, 0⟩
def FieldsPost (w : World) (E : Int) (c : CS) (e : Ending) (w' : World) : Prop :=
  (E ≠ 0 → e = .returned (.tuple #[.pointer none, .int .i64 E]) ∧ Below w.heap.size w w') ∧
  (E = 0 → ∃ g B, e = .returned (.tuple #[.pointer (some ⟨g, 0, none⟩), .int .i64 0]) ∧ w.heap.size ≤ g ∧ B ≤ w'.heap.size ∧ Cur w' B g c ∧ Below w.heap.size w w')
theorem FieldsPost.bad {w w' : World} {E : Int} {c : CS} {e : Ending} (hE : E ≠ 0) (h : e = .returned (.tuple #[.pointer none, .int .i64 E]) ∧ Below w.heap.size w w') : FieldsPost w E c e w' := ⟨fun _ => h, fun h0 => absurd h0 hE⟩
theorem FieldsPost.ok {w w' : World} {c : CS} {e : Ending} (h : ∃ g B, e = .returned (.tuple #[.pointer (some ⟨g, 0, none⟩), .int .i64 0]) ∧ w.heap.size ≤ g ∧ B ≤ w'.heap.size ∧ Cur w' B g c ∧ Below w.heap.size w w') : FieldsPost w 0 c e w' := ⟨fun h0 => absurd rfl h0, fun _ => h⟩
theorem mid_len {l : List Int} {a n : Nat} (h : a + n ≤ l.length) : ((l.take (a + n)).drop a).length = n := by rw [List.length_drop, List.length_take]; omega
theorem next_first {l : List Int} {a n : Nat} (h : a + n ≤ l.length) (hn : 4 ≤ n) : (CS.mk ((l.take (a + n)).drop a) 0 0).next 4 = (l.take (a + 4)).drop a ∧ (CS.mk ((l.take (a + n)).drop a) 0 0).adv 4 = ⟨(l.take (a + n)).drop a, 4, 0⟩ := by
  have hl := mid_len h
  unfold CS.next CS.adv
  simp only [hl]
  rw [if_neg (by simp), if_neg (by omega), if_neg (by simp), if_neg (by omega)]
  refine ⟨?_, rfl⟩
  rw [Nat.zero_add, List.drop_zero, List.take_drop, List.take_take, Nat.min_eq_left (by omega)]

set_option maxHeartbeats 4000000 in
set_option maxRecDepth 100000 in
theorem fields_calls (w : World) (A : Option Addr) (cp : Nat) (l : List Int) (at_ sign : Int) (n : Nat) (hC : Kd.C (Kd.int .u8) w A l.length l) (hcp : l.length ≤ cp) (hl : l.length ≤ 140737488355328) (hy : ∀ x ∈ l, 0 ≤ x ∧ x < 256) (hn : 4 ≤ n) (hn2 : n ≤ 100) :
    Calls Try.prog 65 #[.slice A l.length cp, .int .i64 at_, .int .i64 n, .int .i64 sign] w (FieldsPost w (fieldsE l at_ n sign) (fieldsC l at_ n)) := by
  by_cases h1 : at_ < 0
  · have hE : fieldsE l at_ n sign = 1 := if_pos (.inl h1)
    rw [hE]
    have h1b : decide (at_ < 0) = true := decide_eq_true h1
    clear hC hE
    go_enter Try.func65, Try.ntmps65
    go_wp2
    go_ret2
    exact .bad (by decide) ⟨rfl, Below.refl _ _⟩
  have h1b : decide (at_ < 0) = false := decide_eq_false h1
  by_cases h2 : (l.length : Int) < at_
  · have hE : fieldsE l at_ n sign = 1 := if_pos (.inr h2)
    rw [hE]
    have h2b : decide ((l.length : Int) < at_) = true := decide_eq_true h2
    clear hC hE
    go_enter Try.func65, Try.ntmps65
    go_wp2
    go_ret2
    exact .bad (by decide) ⟨rfl, Below.refl _ _⟩
  have h2b : decide ((l.length : Int) < at_) = false := decide_eq_false h2
  have q0 : 0 ≤ at_ := by omega
  have q1 : (0 : Int) ≤ (l.length : Int) - at_ := by omega
  have q2 : (l.length : Int) - at_ ≤ 140737488355328 := by omega
  by_cases h3 : (l.length : Int) - at_ < n
  · have hE : fieldsE l at_ n sign = 122 := by unfold fieldsE; rw [if_neg (by omega), if_pos h3]
    rw [hE]
    have h3b : decide ((l.length : Int) - at_ < n) = true := decide_eq_true h3
    clear hC hE
    go_enter Try.func65, Try.ntmps65
    go_wp2
    go_ret2
    exact .bad (by decide) ⟨rfl, Below.refl _ _⟩
  have h3b : decide ((l.length : Int) - at_ < n) = false := decide_eq_false h3
  obtain ⟨a, rfl⟩ := Int.eq_ofNat_of_zero_le q0
  have hle : a + n ≤ l.length := by omega
  obtain ⟨i0, hi0, hz0, hz1, hz2⟩ := info_parts Try.infoB
  obtain ⟨A1, hA1⟩ : ∃ A1, A1 = (if cp = a then A else A.map (·.add (a * (Kd.int .u8).sz))) := ⟨_, rfl⟩
  have hCm := Kd.C_mid (k := Kd.int .u8) (c := cp) (lo := a) (hi := a + n) hC (by omega) (by omega) hcp
  rw [← hA1] at hCm
  have hcut : ∀ W : World, (Instr.slice 25 (.slice A l.length cp) (some (.int .i64 (a : Int))) (some (.int .i64 ((a : Int) + (n : Int)))) none).run Try.prog W = .ok (.slice A1 n (cp - a)) W := by
    intro W
    have h := cut_mid (P := Try.prog) 25 5 .i64 .i64 Try.underlying25 hi0 1 hz1 A l.length cp (a : Int) ((a : Int) + (n : Int)) (by omega) (by omega) (by omega) hcp W
    rw [h, hA1]
    have t1 : ((a : Int) + (n : Int)).toNat - (a : Int).toNat = n := by omega
    have t2 : (a : Int).toNat = a := by omega
    rw [t1, t2]
    rfl
  have b1 : (0 : Int) ≤ (a : Int) + (n : Int) := by omega
  have b2 : (a : Int) + (n : Int) ≤ 140737488355328 := by omega
  have hfirst := next_first hle hn
  have hlen := mid_len hle
  have hN := cnew_calls w A1 (cp - a) ((l.take (a + n)).drop a) hCm (by rw [hlen]; omega) (by rw [hlen]; omega) (fun x hx => hy x (List.mem_of_mem_take (List.mem_of_mem_drop hx)))
  rw [hlen] at hN
  have HN := Aside0.mk hN
  have HFI := Aside0.mk hfirst
  by_cases h4 : nm ((l.take (a + 4)).drop a) = sign
  · have hE : fieldsE l a n sign = 0 := by unfold fieldsE; rw [if_neg (by omega), if_neg h3, if_neg (by rw [Int.toNat_natCast]; exact fun h => h h4)]
    have hF : fieldsC l a n = ⟨(l.take (a + n)).drop a, 4, 0⟩ := by unfold fieldsC; rw [Int.toNat_natCast]
    rw [hE, hF]
    have h4b : (nm ((l.take (a + 4)).drop a) != sign) = false := by simpa using h4
    clear hC hE hF hCm hN hfirst hlen hA1 h4 hi0 hz0 hz1 hz2
    go_enter Try.func65, Try.ntmps65
    go_wp2_with (first | (go_at_call 55; refine HN.out.mono ?_; rintro e w1 ⟨g, B, rfl, hg, hB, hcur, hbel⟩) | (go_at_call 66; refine (c32_calls _ B g _ hcur hB).mono ?_; rw [HFI.out.1, HFI.out.2]; rintro e w2 ⟨rfl, hcur2, hF2⟩))
    go_ret2
    exact .ok ⟨g, B, rfl, hg, Nat.le_trans hB hF2.size, hcur2, hbel.trans (hF2.to_below hbel.size (fun k hk => hk ▸ hg))⟩
  · have hE : fieldsE l a n sign = 123 := by unfold fieldsE; rw [if_neg (by omega), if_neg h3, if_pos (by rw [Int.toNat_natCast]; exact h4)]
    rw [hE]
    have h4b : (nm ((l.take (a + 4)).drop a) != sign) = true := by simpa using h4
    clear hC hE hCm hN hfirst hlen hA1 h4 hi0 hz0 hz1 hz2
    go_enter Try.func65, Try.ntmps65
    go_wp2_with (first | (go_at_call 55; refine HN.out.mono ?_; rintro e w1 ⟨g, B, rfl, hg, hB, hcur, hbel⟩) | (go_at_call 66; refine (c32_calls _ B g _ hcur hB).mono ?_; rw [HFI.out.1, HFI.out.2]; rintro e w2 ⟨rfl, hcur2, hF2⟩))
    go_ret2
    exact .bad (by decide) ⟨rfl, hbel.trans (hF2.to_below hbel.size (fun k hk => hk ▸ hg))⟩
theorem fieldsC_data {l : List Int} {a : Int} {n : Nat} (hy : ∀ x ∈ l, 0 ≤ x ∧ x < 256) : ∀ x ∈ (fieldsC l a n).data, 0 ≤ x ∧ x < 256 := fun x hx => hy x (List.mem_of_mem_take (List.mem_of_mem_drop hx))
theorem C_below' {α : Type} {d : Kd α} {w w1 : World} {A : Option Addr} {n : Nat} {l : List α} (h : Kd.C d w A n l) (hb : Below w.heap.size w w1) : Kd.C d w1 A n l := Kd.C_below h hb
end Go.Proofs.Ytkmnhlhpmfkloaa.Fld

/- Small lemmas for what was walked by hand, in the print's form. -/
namespace Go.Proofs.Ytkmnhlhpmfkloaa.Fld
open Go.RowKit Go.Proofs.YtkmnhlhpmfkloaaW.PrintWords Go.Proofs.YtkmnhlhpmfkloaaW.PrintLast Go.Proofs.YtkmnhlhpmfkloaaW.PrintMore Go.Proofs.Ytkmnhlhpmfkloaa.Mem
set_option linter.unusedVariables false
set_option linter.unusedSimpArgs false

theorem cut_runs {P : Program} {t e : TypeId} {i : TypeInfo} (ht : P.underlying t = some (.slice e)) (hi : P.info? e = some i) (hsz : i.size = 1) (A : Option Addr) (n c a m : Nat) (hm : a + m ≤ n) (hc : n ≤ c) :
    ∀ W : World, (Instr.slice t (.slice A n c) (some (.int .i64 (a : Int))) (some (.int .i64 ((a : Int) + (m : Int)))) none).run P W = .ok (.slice (if c = a then A else A.map (·.add (a * (Kd.int .u8).sz))) m (c - a)) W := by
  intro W
  have h := cut_mid (P := P) t e .i64 .i64 ht hi 1 hsz A n c (a : Int) ((a : Int) + (m : Int)) (by omega) (by omega) (by omega) hc W
  rw [h]
  have t1 : ((a : Int) + (m : Int)).toNat - (a : Int).toNat = m := by omega
  have t2 : (a : Int).toNat = a := by omega
  rw [t1, t2]
  rfl
theorem reps_flat {α : Type} {R : α → List Value → Prop} {enc : α → List Value} {sz : Nat} (hsz : ∀ x, (enc x).length = sz) (hR : ∀ x, R x (enc x)) : ∀ l : List α, Reps R sz l (l.flatMap enc)
  | [] => Reps.none _ _
  | x :: l => by
    have ih := reps_flat hsz hR l
    refine ⟨by rw [List.flatMap_cons, List.length_append, hsz, ih.1, List.length_cons, Nat.succ_mul]; omega, fun j p hj => ?_⟩
    rw [List.flatMap_cons]
    cases j with
    | zero =>
      simp only [List.getElem?_cons_zero, Option.some.injEq] at hj
      subst hj
      rw [Nat.zero_mul, List.drop_zero, List.take_append_of_le_length (by rw [hsz]; exact Nat.le_refl _), List.take_of_length_le (by rw [hsz]; exact Nat.le_refl _)]
      exact hR x
    | succ j =>
      rw [List.getElem?_cons_succ] at hj
      rw [Nat.succ_mul, Nat.add_comm, List.drop_append, List.drop_eq_nil_of_le (by rw [hsz]; omega), List.nil_append, hsz, Nat.add_sub_cancel_left]
      exact ih.2 j p hj
set_option maxRecDepth 100000 in
theorem piece_calls (w : World) (A : Option Addr) (cp : Nat) (l : List Int) (x n : Int) (hC : Kd.C (Kd.int .u8) w A l.length l) (hcp : l.length ≤ cp) (hl : l.length ≤ 140737488355328) (hx : 0 ≤ x) (hn : 0 ≤ n) (hxn : x + n ≤ l.length) :
    Calls Try.prog 69 #[.slice A l.length cp, .int .i64 x, .int .i64 n] w fun e w' => e = .returned (.string (strOfNums ((l.take (x.toNat + n.toNat)).drop x.toNat))) ∧ Drawn0 w w' := by
  obtain ⟨a, rfl⟩ := Int.eq_ofNat_of_zero_le hx
  obtain ⟨m, rfl⟩ := Int.eq_ofNat_of_zero_le hn
  simp only [Int.toNat_natCast]
  obtain ⟨i0, hi0, hz0, hz1, hz2⟩ := info_parts Try.infoB
  have hcut := cut_runs (P := Try.prog) Try.underlying25 hi0 hz1 A l.length cp a m (by omega) hcp
  have hCm := Kd.C_mid (k := Kd.int .u8) (c := cp) (lo := a) (hi := a + m) hC (by omega) (by omega) hcp
  have hcv := Kd.C_string (c := cp - a) Try.underlying25 Try.underlying5 Try.underlying9 hCm
  rw [mid_len (by omega : a + m ≤ l.length)] at hcv
  generalize (if cp = a then A else A.map (·.add (a * (Kd.int .u8).sz))) = A1 at hcut hcv
  have b1 : (0 : Int) ≤ (a : Int) + (m : Int) := by omega
  have b2 : (a : Int) + (m : Int) ≤ 140737488355328 := by omega
  clear hCm hC hz0 hz1 hz2 hi0
  go_enter Try.func69, Try.ntmps69
  go_wp2
  go_ret
  exact ⟨rfl, Drawn0.refl _⟩
theorem strOfNums_len (xs : List Int) : (strOfNums xs).toList.length = xs.length := by
  have h : ∀ s : ByteArray, s.toList.length = s.size := fun s => by obtain ⟨⟨l⟩⟩ := s; simp; rfl
  rw [h]
  unfold strOfNums
  simp [ByteArray.size]
/-- Are these bytes, and no more than may be? -/
def okB (l : List Int) : Bool := l.all (fun x => decide (0 ≤ x) && decide (x < 256)) && decide (l.length ≤ 140737488355328)
theorem okB_iff {l : List Int} (h : okB l = true) : (∀ x ∈ l, 0 ≤ x ∧ x < 256) ∧ l.length ≤ 140737488355328 := by
  unfold okB at h
  rw [Bool.and_eq_true, List.all_eq_true] at h
  refine ⟨fun x hx => ?_, of_decide_eq_true h.2⟩
  have := h.1 x hx
  rw [Bool.and_eq_true] at this
  exact ⟨of_decide_eq_true this.1, of_decide_eq_true this.2⟩
end Go.Proofs.Ytkmnhlhpmfkloaa.Fld

/- record's texts: walked by hand. -/
namespace Go.Proofs.Ytkmnhlhpmfkloaa.Fld
open Go.RowKit Go.Proofs.YtkmnhlhpmfkloaaW.PrintWords Go.Proofs.YtkmnhlhpmfkloaaW.PrintLast Go.Proofs.YtkmnhlhpmfkloaaW.PrintMore Go.Proofs.Ytkmnhlhpmfkloaa.Mem
set_option linter.unusedVariables false
set_option linter.unusedSimpArgs false

/-- Texts of these lengths, one behind the other from a place on, and where they end. -/
def textsF (l : List Int) : Nat → List Int → Option (List ByteArray × Nat)
  | a, [] => some ([], a)
  | a, n :: ns => if (l.length : Int) - a < n then none else match textsF l (a + n.toNat) ns with
    | none => none
    | some (ts, b) => some (strOfNums ((l.take (a + n.toNat)).drop a) :: ts, b)
def TextsPost (w : World) (r : Option (List ByteArray × Nat)) (e : Ending) (w' : World) : Prop :=
  (r = none → e = .returned (.tuple #[.slice none 0 0, .int .i64 0, .int .i64 122]) ∧ Below w.heap.size w w') ∧
  (∀ ts b, r = some (ts, b) → ∃ A c, e = .returned (.tuple #[.slice A ts.length c, .int .i64 (b : Int), .int .i64 0]) ∧ Kd.R Kd.string 9 w' w.heap.size (fun _ => True) (.slice A ts.length c) ts ∧ Below w.heap.size w w')
theorem TextsPost.bad {w w' : World} {r : Option (List ByteArray × Nat)} {e : Ending} (hr : r = none) (h : e = .returned (.tuple #[.slice none 0 0, .int .i64 0, .int .i64 122]) ∧ Below w.heap.size w w') : TextsPost w r e w' := And.intro (fun _ => h) (fun ts b h0 => (by rw [hr] at h0; cases h0))
theorem TextsPost.ok {w w' : World} {r : Option (List ByteArray × Nat)} {e : Ending} {ts : List ByteArray} {b : Nat} (hr : r = some (ts, b)) (h : ∃ A c, e = .returned (.tuple #[.slice A ts.length c, .int .i64 (b : Int), .int .i64 0]) ∧ Kd.R Kd.string 9 w' w.heap.size (fun _ => True) (.slice A ts.length c) ts ∧ Below w.heap.size w w') : TextsPost w r e w' :=
  by
    subst hr
    refine And.intro (fun h0 => nomatch h0) (fun ts' b' h0 => ?_)
    simp only [Option.some.injEq, Prod.mk.injEq] at h0
    obtain ⟨rfl, rfl⟩ := h0
    exact h
/-- What is told already, ahead of what is to come. -/
def pre (ts : List ByteArray) : Option (List ByteArray × Nat) → Option (List ByteArray × Nat)
  | none => none
  | some (us, b) => some (ts ++ us, b)
theorem pre_cons (ts : List ByteArray) (l : List Int) (a : Nat) (n : Int) (ns : List Int) (h : ¬ (l.length : Int) - a < n) : pre ts (textsF l a (n :: ns)) = pre (ts ++ [strOfNums ((l.take (a + n.toNat)).drop a)]) (textsF l (a + n.toNat) ns) := by
  rw [textsF, if_neg h]
  cases textsF l (a + n.toNat) ns with
  | none => rfl
  | some p => simp [pre]
theorem pre_short (ts : List ByteArray) (l : List Int) (a : Nat) (n : Int) (ns : List Int) (h : (l.length : Int) - a < n) : pre ts (textsF l a (n :: ns)) = none := by rw [textsF, if_pos h]; rfl
theorem pre_nil (r : Option (List ByteArray × Nat)) : pre [] r = r := by cases r <;> rfl
theorem Try.infoS : (Try.prog.info? 9).map (fun i => (i.zero, i.size, i.bytes)) = some (some (.string ⟨#[]⟩), 1, 16) := by kernel_rfl

set_option maxHeartbeats 8000000 in
set_option maxRecDepth 100000 in
theorem texts_calls (w : World) (A : Option Addr) (cp : Nat) (l : List Int) (x : Int) (A2 : Option Addr) (cp2 : Nat) (ns : List Int) (hC : Kd.C (Kd.int .u8) w A l.length l) (hcp : l.length ≤ cp) (hl : l.length ≤ 140737488355328)
    (hx0 : 0 ≤ x) (hx1 : x ≤ l.length) (hN : Kd.C (Kd.int .i64) w A2 ns.length ns) (hn : ns.length ≤ 100) (hn0 : ∀ n ∈ ns, 0 ≤ n ∧ n ≤ 4294967295) :
    Calls Try.prog 67 #[.slice A l.length cp, .int .i64 x, .slice A2 ns.length cp2] w (TextsPost w (textsF l x.toNat ns)) := by
  obtain ⟨a0, rfl⟩ := Int.eq_ofNat_of_zero_le hx0
  rw [Int.toNat_natCast]
  have HC := Aside0.mk hC
  have HN := Aside0.mk hN
  have HZ := Aside0.mk hn0
  obtain ⟨i0, hi0, hz0, hz1, hz2⟩ := info_parts Try.infoB
  obtain ⟨j0, hj0, hy0, hy1, hy2⟩ := info_parts Try.infoS
  clear hC hN hn0
  go_enter Try.func67, Try.ntmps67
  go_wp2
  go_loopg [1, 9, 14] (ns.length + 1) (fun gk v1 v9 v14 wr => ∃ (a j : Nat) (ts : List ByteArray) (A9 : Option Addr) (c9 : Nat), v1 = .int .i64 a ∧ v9 = .slice A9 ts.length c9 ∧ v14 = .int .i64 j ∧ j ≤ ns.length ∧ (a : Int) ≤ l.length ∧ ns.length + 1 ≤ j + gk ∧ ts.length ≤ j ∧
    Aside0 (wr.ownsRow w.heap.size 9 1 (.slice A9 ts.length c9) ts.length (ts.map Value.string)) ∧ Aside0 (Below w.heap.size w wr) ∧ Aside0 (textsF l a0 ns = pre ts (textsF l a (ns.drop j))))
  case atStart => exact ⟨a0, 0, [], none, 0, rfl, rfl, rfl, Nat.zero_le _, hx1, by omega, Nat.le_refl _, ⟨own_nil _ _ _ _⟩, ⟨Below.refl _ _⟩, ⟨by rw [pre_nil]; rfl⟩⟩
  case round =>
    obtain ⟨a, j, ts, A9, c9, rfl, rfl, rfl, hj, ha, hjk, hts, HO, HB, HE⟩ := hrel
    by_cases hlt : j < ns.length
    · have hltb : decide ((j : Int) < (ns.length : Int)) = true := decide_eq_true (by omega)
      obtain ⟨ad2, hA2, hcell⟩ := ReadsOf.at_ (Kd.reads_of_C (enc := Value.int .i64) (d := (0 : Int)) (h1 := fun _ => rfl) (C_below' HN.out HB.out)) (j : Int) (by omega) (by omega)
      have hd : ns.drop j = rdOf 0 ns (j : Int) :: ns.drop (j + 1) := by
        rw [List.drop_eq_getElem_cons hlt, rdOf, Int.toNat_natCast, List.getD_eq_getElem?_getD, List.getElem?_eq_getElem hlt]
        rfl
      have hm := HZ.out (rdOf 0 ns (j : Int)) (by rw [rdOf, Int.toNat_natCast, List.getD_eq_getElem?_getD, List.getElem?_eq_getElem hlt]; exact List.getElem_mem _)
      rw [Int.toNat_natCast] at hcell
      subst hA2
      have HD := Aside0.mk hd
      clear hd
      generalize rdOf 0 ns (j : Int) = n at *
      obtain ⟨hm0, hm1⟩ := hm
      have q1 : (0 : Int) ≤ (l.length : Int) - a := by omega
      have q2 : (l.length : Int) - a ≤ 140737488355328 := by omega
      have q3 : (j : Int) < (ns.length : Int) := by omega
      by_cases hsh : (l.length : Int) - a < n
      · have hshb : decide ((l.length : Int) - a < n) = true := decide_eq_true hsh
        have HF := Aside0.mk (show textsF l a0 ns = none by rw [HE.out, HD.out, pre_short _ _ _ _ _ hsh])
        go_wp2
        go_ret3
        exact .bad HF.out ⟨rfl, HB.out⟩
      · have hshb : decide ((l.length : Int) - a < n) = false := decide_eq_false hsh
        have HF := Aside0.mk (show textsF l a0 ns = pre (ts ++ [strOfNums ((l.take (a + n.toNat)).drop a)]) (textsF l (a + n.toNat) (ns.drop (j + 1))) by rw [HE.out, HD.out, pre_cons _ _ _ _ _ hsh])
        obtain ⟨m, rfl⟩ := Int.eq_ofNat_of_zero_le hm0
        rw [Int.toNat_natCast] at HF
        obtain ⟨A1, hA1⟩ : ∃ A1, A1 = (if cp = a then A else A.map (·.add (a * (Kd.int .u8).sz))) := ⟨_, rfl⟩
        have hCm := Kd.C_mid (k := Kd.int .u8) (c := cp) (lo := a) (hi := a + m) (C_below' HC.out HB.out) (by omega) (by omega) hcp
        rw [← hA1] at hCm
        have hlen := mid_len (l := l) (a := a) (n := m) (by omega)
        have hcut : ∀ W : World, (Instr.slice 25 (.slice A l.length cp) (some (.int .i64 (a : Int))) (some (.int .i64 ((a : Int) + (m : Int)))) none).run Try.prog W = .ok (.slice A1 m (cp - a)) W := by
          intro W
          have h := cut_mid (P := Try.prog) 25 5 .i64 .i64 Try.underlying25 hi0 1 hz1 A l.length cp (a : Int) ((a : Int) + (m : Int)) (by omega) (by omega) (by omega) hcp W
          rw [h, hA1]
          have t1 : ((a : Int) + (m : Int)).toNat - (a : Int).toNat = m := by omega
          have t2 : (a : Int).toNat = a := by omega
          rw [t1, t2]
          rfl
        have hcv := Kd.C_string (c := cp - a) Try.underlying25 Try.underlying5 Try.underlying9 hCm
        rw [hlen] at hcv
        generalize strOfNums ((l.take (a + m)).drop a) = s at HF hcv
        have b1 : (0 : Int) ≤ (a : Int) + (m : Int) := by omega
        have b2 : (a : Int) + (m : Int) ≤ 140737488355328 := by omega
        have hwl := HB.out.size
        clear hCm hlen hA1
        go_wp2_with (at_builtin; refine wpList_append_lies _ (by rfl) _ _ _ (by rfl) w.heap.size 9 j0 _ 1 16 Try.underlying113 hj0 hy0 hy1 hy2 rfl (by omega) (.slice A9 ts.length c9) ts.length (ts.map Value.string) ?b1 (HO.out.alloc _) ⟨wr.heap.size, 0, none⟩ 1 1 [.string s] ?b2 ?b3 ?b4 ?b5 (by omega) ?b7 ?b8 ?b9 (wr.heap.size + 1) ?b10 ?b11; (case b1 => rfl); (case b2 => rfl); (case b3 => rfl); (case b4 => exact World.news_of_block (cs := #[.string s]) (t := 9) (fr := (0, 0)) (heap_alloc_new wr _)); (case b5 => simp [Value.oneCell']); (case b7 => simp only [maxLen]; omega); (case b8 => omega); (case b9 => simp; omega); (case b10 => simp); intro gg cap w1 hown1 hgrow hat hlt2)
        go_roundg (ns.length - j)
        case measure => omega
        case rel =>
          have hb1 : Below w.heap.size w w1 := ((below_alloc HB.out _)).grown hgrow (by simp; omega) (own_base HO.out)
          exact ⟨a + m, j + 1, ts ++ [s], some ⟨gg, 0, none⟩, cap, by go_num, by simp, by go_num, by omega, by omega, by omega, by simp; omega, ⟨by simpa using hown1⟩, ⟨hb1⟩, HF⟩
    · have hltb : decide ((j : Int) < (ns.length : Int)) = false := decide_eq_false (by omega)
      have HF := Aside0.mk (show textsF l a0 ns = some (ts, a) by rw [HE.out, List.drop_eq_nil_of_le (by omega), textsF]; simp [pre])
      go_wp2
      go_ret3
      exact .ok HF.out ⟨A9, c9, rfl, Kd.R_of_own HO.out (fun _ _ => trivial), HB.out⟩
end Go.Proofs.Ytkmnhlhpmfkloaa.Fld

/- What the calls Get.. of record do: walked by hand. -/
namespace Go.Proofs.Ytkmnhlhpmfkloaa.Fld
open Go.RowKit Go.Proofs.YtkmnhlhpmfkloaaW.PrintWords Go.Proofs.YtkmnhlhpmfkloaaW.PrintLast Go.Proofs.YtkmnhlhpmfkloaaW.PrintMore Go.Proofs.Ytkmnhlhpmfkloaa.Mem
set_option linter.unusedVariables false
set_option linter.unusedSimpArgs false
theorem Try.infoL : (Try.prog.info? 24).map (·.size) = some 10 := by kernel_rfl
theorem Try.infoE : (Try.prog.info? 57).map (·.size) = some 7 := by kernel_rfl
theorem Try.infoC : (Try.prog.info? 73).map (·.size) = some 16 := by kernel_rfl

set_option maxHeartbeats 16000000 in
set_option maxRecDepth 100000 in
theorem getShared_calls (w : World) (B g : Nat) (c : CS) (h : Cur w B g c) (hB : B ≤ w.heap.size) : Calls Try.prog 73 #[.pointer (some ⟨g, 0, none⟩)] w fun e w' =>
    e = .returned (.tuple #[.agg #[.int .i64 (nm (c.next 2)), .int .i64 (nm ((c.adv 2).next 2)), .int .i64 (nm (((c.adv 2).adv 2).next 2)), .int .i64 (nm ((((c.adv 2).adv 2).adv 2).next 2)), .int .i64 (nm (((((c.adv 2).adv 2).adv 2).adv 2).next 2)), .int .u32 (nm ((((((c.adv 2).adv 2).adv 2).adv 2).adv 2).next 4) % 4294967296), .int .i64 (nm (((((((c.adv 2).adv 2).adv 2).adv 2).adv 2).adv 4).next 4)), .int .i64 (nm ((((((((c.adv 2).adv 2).adv 2).adv 2).adv 2).adv 4).adv 4).next 4)), .string ⟨#[]⟩, .string ⟨#[]⟩], .int .i64 (nm (((((((((c.adv 2).adv 2).adv 2).adv 2).adv 2).adv 4).adv 4).adv 4).next 2)), .int .i64 (nm ((((((((((c.adv 2).adv 2).adv 2).adv 2).adv 2).adv 4).adv 4).adv 4).adv 2).next 2))]) ∧ Cur w' B g ((((((((((c.adv 2).adv 2).adv 2).adv 2).adv 2).adv 4).adv 4).adv 4).adv 2).adv 2) ∧ Frm (fun q => q = g) w w' := by
  have hgB : g < B := by obtain ⟨_, _, _, _, h1, _⟩ := h; exact h1
  have hX := blk_new w (.cells #[.int .i64 0, .int .i64 0, .int .i64 0, .int .i64 0, .int .i64 0, .int .u32 0, .int .i64 0, .int .i64 0, .string ⟨#[]⟩, .string ⟨#[]⟩] 24)
  have hcur := h.frm ((Frm.refl (fun _ => False) w).alloc (.cells #[.int .i64 0, .int .i64 0, .int .i64 0, .int .i64 0, .int .i64 0, .int .u32 0, .int .i64 0, .int .i64 0, .string ⟨#[]⟩, .string ⟨#[]⟩] 24)) (fun _ _ hh => hh)
  have hBs : B ≤ (w.alloc (.cells #[.int .i64 0, .int .i64 0, .int .i64 0, .int .i64 0, .int .i64 0, .int .u32 0, .int .i64 0, .int .i64 0, .string ⟨#[]⟩, .string ⟨#[]⟩] 24)).heap.size := by simp; omega
  have hF0 := (Frm.refl (fun q => q = g) w).alloc (.cells #[.int .i64 0, .int .i64 0, .int .i64 0, .int .i64 0, .int .i64 0, .int .u32 0, .int .i64 0, .int .i64 0, .string ⟨#[]⟩, .string ⟨#[]⟩] 24)
  have hne : g ≠ w.heap.size := by omega
  have hBx : B ≤ w.heap.size := hB
  have HB0 := Aside0.mk hcur
  have HX0 := Aside0.mk hX
  have HG0 := Aside0.mk hF0
  have HZ0 := Aside0.mk hBs
  clear hcur hX hF0 hBs h
  go_enter Try.func73, Try.ntmps73
  go_wp2_with fail
  generalize w.alloc (.cells #[.int .i64 0, .int .i64 0, .int .i64 0, .int .i64 0, .int .i64 0, .int .u32 0, .int .i64 0, .int .i64 0, .string ⟨#[]⟩, .string ⟨#[]⟩] 24) = w0 at HB0 HX0 HG0 HZ0 ⊢
  generalize hbx : w.heap.size = bx at hne hBx HX0 ⊢
  have HBX := Aside0.mk hbx
  clear hbx hB
  have i0 : ∀ w : World, (Instr.index 132 (.agg #[.pointer (some ⟨bx, 0, none⟩), .pointer (some ⟨bx, 1, none⟩), .pointer (some ⟨bx, 2, none⟩), .pointer (some ⟨bx, 3, none⟩), .pointer (some ⟨bx, 4, none⟩)]) (.int .i64 0)).run Try.prog w = .ok (.pointer (some ⟨bx, 0, none⟩)) w := fun _ => by kernel_rfl
  have i1 : ∀ w : World, (Instr.index 132 (.agg #[.pointer (some ⟨bx, 0, none⟩), .pointer (some ⟨bx, 1, none⟩), .pointer (some ⟨bx, 2, none⟩), .pointer (some ⟨bx, 3, none⟩), .pointer (some ⟨bx, 4, none⟩)]) (.int .i64 1)).run Try.prog w = .ok (.pointer (some ⟨bx, 1, none⟩)) w := fun _ => by kernel_rfl
  have i2 : ∀ w : World, (Instr.index 132 (.agg #[.pointer (some ⟨bx, 0, none⟩), .pointer (some ⟨bx, 1, none⟩), .pointer (some ⟨bx, 2, none⟩), .pointer (some ⟨bx, 3, none⟩), .pointer (some ⟨bx, 4, none⟩)]) (.int .i64 2)).run Try.prog w = .ok (.pointer (some ⟨bx, 2, none⟩)) w := fun _ => by kernel_rfl
  have i3 : ∀ w : World, (Instr.index 132 (.agg #[.pointer (some ⟨bx, 0, none⟩), .pointer (some ⟨bx, 1, none⟩), .pointer (some ⟨bx, 2, none⟩), .pointer (some ⟨bx, 3, none⟩), .pointer (some ⟨bx, 4, none⟩)]) (.int .i64 3)).run Try.prog w = .ok (.pointer (some ⟨bx, 3, none⟩)) w := fun _ => by kernel_rfl
  have i4 : ∀ w : World, (Instr.index 132 (.agg #[.pointer (some ⟨bx, 0, none⟩), .pointer (some ⟨bx, 1, none⟩), .pointer (some ⟨bx, 2, none⟩), .pointer (some ⟨bx, 3, none⟩), .pointer (some ⟨bx, 4, none⟩)]) (.int .i64 4)).run Try.prog w = .ok (.pointer (some ⟨bx, 4, none⟩)) w := fun _ => by kernel_rfl
  go_loopg [13] 6 (fun gk v13 wr => Aside0 (Frm (fun q => q = g) w wr) ∧ Aside0 (B ≤ wr.heap.size) ∧ ((v13 = .int .i64 0 ∧ 6 ≤ gk ∧ Aside0 (Cur wr B g c) ∧ Aside0 (wr.heap[bx]? = some (.cells #[.int .i64 0, .int .i64 0, .int .i64 0, .int .i64 0, .int .i64 0, .int .u32 0, .int .i64 0, .int .i64 0, .string ⟨#[]⟩, .string ⟨#[]⟩] 24 (0, 0)))) ∨ (v13 = .int .i64 1 ∧ 5 ≤ gk ∧ Aside0 (Cur wr B g (c.adv 2)) ∧ Aside0 (wr.heap[bx]? = some (.cells #[.int .i64 (nm (c.next 2)), .int .i64 0, .int .i64 0, .int .i64 0, .int .i64 0, .int .u32 0, .int .i64 0, .int .i64 0, .string ⟨#[]⟩, .string ⟨#[]⟩] 24 (0, 0)))) ∨ (v13 = .int .i64 2 ∧ 4 ≤ gk ∧ Aside0 (Cur wr B g ((c.adv 2).adv 2)) ∧ Aside0 (wr.heap[bx]? = some (.cells #[.int .i64 (nm (c.next 2)), .int .i64 (nm ((c.adv 2).next 2)), .int .i64 0, .int .i64 0, .int .i64 0, .int .u32 0, .int .i64 0, .int .i64 0, .string ⟨#[]⟩, .string ⟨#[]⟩] 24 (0, 0)))) ∨ (v13 = .int .i64 3 ∧ 3 ≤ gk ∧ Aside0 (Cur wr B g (((c.adv 2).adv 2).adv 2)) ∧ Aside0 (wr.heap[bx]? = some (.cells #[.int .i64 (nm (c.next 2)), .int .i64 (nm ((c.adv 2).next 2)), .int .i64 (nm (((c.adv 2).adv 2).next 2)), .int .i64 0, .int .i64 0, .int .u32 0, .int .i64 0, .int .i64 0, .string ⟨#[]⟩, .string ⟨#[]⟩] 24 (0, 0)))) ∨ (v13 = .int .i64 4 ∧ 2 ≤ gk ∧ Aside0 (Cur wr B g ((((c.adv 2).adv 2).adv 2).adv 2)) ∧ Aside0 (wr.heap[bx]? = some (.cells #[.int .i64 (nm (c.next 2)), .int .i64 (nm ((c.adv 2).next 2)), .int .i64 (nm (((c.adv 2).adv 2).next 2)), .int .i64 (nm ((((c.adv 2).adv 2).adv 2).next 2)), .int .i64 0, .int .u32 0, .int .i64 0, .int .i64 0, .string ⟨#[]⟩, .string ⟨#[]⟩] 24 (0, 0)))) ∨ (v13 = .int .i64 5 ∧ 1 ≤ gk ∧ Aside0 (Cur wr B g (((((c.adv 2).adv 2).adv 2).adv 2).adv 2)) ∧ Aside0 (wr.heap[bx]? = some (.cells #[.int .i64 (nm (c.next 2)), .int .i64 (nm ((c.adv 2).next 2)), .int .i64 (nm (((c.adv 2).adv 2).next 2)), .int .i64 (nm ((((c.adv 2).adv 2).adv 2).next 2)), .int .i64 (nm (((((c.adv 2).adv 2).adv 2).adv 2).next 2)), .int .u32 0, .int .i64 0, .int .i64 0, .string ⟨#[]⟩, .string ⟨#[]⟩] 24 (0, 0))))))
  case atStart => exact ⟨HG0, HZ0, .inl ⟨rfl, by omega, HB0, HX0⟩⟩
  case round =>
    obtain ⟨HG, HZ, hcase⟩ := hrel
    clear HB0 HX0 HG0 HZ0
    rcases hcase with ⟨rfl, hgk, HB, HX⟩ | ⟨rfl, hgk, HB, HX⟩ | ⟨rfl, hgk, HB, HX⟩ | ⟨rfl, hgk, HB, HX⟩ | ⟨rfl, hgk, HB, HX⟩ | ⟨rfl, hgk, HB, HX⟩
    · go_wp2_with fail
      refine (c16_calls _ B g _ HB.out HZ.out).mono ?_
      rintro e wn ⟨rfl, hb, hf⟩
      have hx := hf.blk HX.out (Ne.symm hne)
      have hc : wn.cell? ⟨bx, 0, none⟩ = some (.int .i64 0) := blk_cell hx 0
      have hz : wn.frozen? ⟨bx, 0, none⟩ = false := blk_frozen hx 0
      go_wp2_with fail
      go_roundg 5
      case measure => omega
      case rel =>
        have hs := (Frm.refl (fun q => q = bx) wn).setCell (p := ⟨bx, 0, none⟩) (.inl rfl) (.int .i64 (nm (c.next 2)))
        exact ⟨⟨(Frm.chain HG.out hf).trans hs (fun q hq => .inr (by rw [hq, ← HBX.out]; exact Nat.le_refl _))⟩, ⟨Nat.le_trans (Nat.le_trans HZ.out hf.size) hs.size⟩, .inr (.inl ⟨rfl, by omega, ⟨hb.frm hs (fun q hq h => by omega)⟩, ⟨blk_put hx 0 _ rfl⟩⟩)⟩
    · go_wp2_with fail
      refine (c16_calls _ B g _ HB.out HZ.out).mono ?_
      rintro e wn ⟨rfl, hb, hf⟩
      have hx := hf.blk HX.out (Ne.symm hne)
      have hc : wn.cell? ⟨bx, 1, none⟩ = some (.int .i64 0) := blk_cell hx 1
      have hz : wn.frozen? ⟨bx, 1, none⟩ = false := blk_frozen hx 1
      go_wp2_with fail
      go_roundg 4
      case measure => omega
      case rel =>
        have hs := (Frm.refl (fun q => q = bx) wn).setCell (p := ⟨bx, 1, none⟩) (.inl rfl) (.int .i64 (nm ((c.adv 2).next 2)))
        exact ⟨⟨(Frm.chain HG.out hf).trans hs (fun q hq => .inr (by rw [hq, ← HBX.out]; exact Nat.le_refl _))⟩, ⟨Nat.le_trans (Nat.le_trans HZ.out hf.size) hs.size⟩, .inr (.inr (.inl ⟨rfl, by omega, ⟨hb.frm hs (fun q hq h => by omega)⟩, ⟨blk_put hx 1 _ rfl⟩⟩))⟩
    · go_wp2_with fail
      refine (c16_calls _ B g _ HB.out HZ.out).mono ?_
      rintro e wn ⟨rfl, hb, hf⟩
      have hx := hf.blk HX.out (Ne.symm hne)
      have hc : wn.cell? ⟨bx, 2, none⟩ = some (.int .i64 0) := blk_cell hx 2
      have hz : wn.frozen? ⟨bx, 2, none⟩ = false := blk_frozen hx 2
      go_wp2_with fail
      go_roundg 3
      case measure => omega
      case rel =>
        have hs := (Frm.refl (fun q => q = bx) wn).setCell (p := ⟨bx, 2, none⟩) (.inl rfl) (.int .i64 (nm (((c.adv 2).adv 2).next 2)))
        exact ⟨⟨(Frm.chain HG.out hf).trans hs (fun q hq => .inr (by rw [hq, ← HBX.out]; exact Nat.le_refl _))⟩, ⟨Nat.le_trans (Nat.le_trans HZ.out hf.size) hs.size⟩, .inr (.inr (.inr (.inl ⟨rfl, by omega, ⟨hb.frm hs (fun q hq h => by omega)⟩, ⟨blk_put hx 2 _ rfl⟩⟩)))⟩
    · go_wp2_with fail
      refine (c16_calls _ B g _ HB.out HZ.out).mono ?_
      rintro e wn ⟨rfl, hb, hf⟩
      have hx := hf.blk HX.out (Ne.symm hne)
      have hc : wn.cell? ⟨bx, 3, none⟩ = some (.int .i64 0) := blk_cell hx 3
      have hz : wn.frozen? ⟨bx, 3, none⟩ = false := blk_frozen hx 3
      go_wp2_with fail
      go_roundg 2
      case measure => omega
      case rel =>
        have hs := (Frm.refl (fun q => q = bx) wn).setCell (p := ⟨bx, 3, none⟩) (.inl rfl) (.int .i64 (nm ((((c.adv 2).adv 2).adv 2).next 2)))
        exact ⟨⟨(Frm.chain HG.out hf).trans hs (fun q hq => .inr (by rw [hq, ← HBX.out]; exact Nat.le_refl _))⟩, ⟨Nat.le_trans (Nat.le_trans HZ.out hf.size) hs.size⟩, .inr (.inr (.inr (.inr (.inl ⟨rfl, by omega, ⟨hb.frm hs (fun q hq h => by omega)⟩, ⟨blk_put hx 3 _ rfl⟩⟩))))⟩
    · go_wp2_with fail
      refine (c16_calls _ B g _ HB.out HZ.out).mono ?_
      rintro e wn ⟨rfl, hb, hf⟩
      have hx := hf.blk HX.out (Ne.symm hne)
      have hc : wn.cell? ⟨bx, 4, none⟩ = some (.int .i64 0) := blk_cell hx 4
      have hz : wn.frozen? ⟨bx, 4, none⟩ = false := blk_frozen hx 4
      go_wp2_with fail
      go_roundg 1
      case measure => omega
      case rel =>
        have hs := (Frm.refl (fun q => q = bx) wn).setCell (p := ⟨bx, 4, none⟩) (.inl rfl) (.int .i64 (nm (((((c.adv 2).adv 2).adv 2).adv 2).next 2)))
        exact ⟨⟨(Frm.chain HG.out hf).trans hs (fun q hq => .inr (by rw [hq, ← HBX.out]; exact Nat.le_refl _))⟩, ⟨Nat.le_trans (Nat.le_trans HZ.out hf.size) hs.size⟩, .inr (.inr (.inr (.inr (.inr (⟨rfl, by omega, ⟨hb.frm hs (fun q hq h => by omega)⟩, ⟨blk_put hx 4 _ rfl⟩⟩)))))⟩
    · clear i0 i1 i2 i3 i4
      go_wp2_with fail
      refine (c32_calls _ B g _ HB.out HZ.out).mono ?_
      rintro e wn ⟨rfl, hb, hf⟩
      have hx := hf.blk HX.out (Ne.symm hne)
      have hc : wn.cell? ⟨bx, 5, none⟩ = some (.int .u32 0) := blk_cell hx 5
      have hz : wn.frozen? ⟨bx, 5, none⟩ = false := blk_frozen hx 5
      have hs := (Frm.refl (fun q => q = bx) wn).setCell (p := ⟨bx, 5, none⟩) (.inl rfl) (.int .u32 (nm ((((((c.adv 2).adv 2).adv 2).adv 2).adv 2).next 4) % 4294967296))
      replace HG := Aside0.mk ((Frm.chain HG.out hf).trans hs (fun q hq => .inr (by rw [hq, ← HBX.out]; exact Nat.le_refl _)))
      replace HZ := Aside0.mk (Nat.le_trans (Nat.le_trans HZ.out hf.size) hs.size)
      replace HB := Aside0.mk (hb.frm hs (fun q hq h => by omega))
      replace HX : Aside0 ((wn.setCell ⟨bx, 5, none⟩ (.int .u32 (nm ((((((c.adv 2).adv 2).adv 2).adv 2).adv 2).next 4) % 4294967296))).heap[bx]? = some (.cells #[.int .i64 (nm (c.next 2)), .int .i64 (nm ((c.adv 2).next 2)), .int .i64 (nm (((c.adv 2).adv 2).next 2)), .int .i64 (nm ((((c.adv 2).adv 2).adv 2).next 2)), .int .i64 (nm (((((c.adv 2).adv 2).adv 2).adv 2).next 2)), .int .u32 (nm ((((((c.adv 2).adv 2).adv 2).adv 2).adv 2).next 4) % 4294967296), .int .i64 0, .int .i64 0, .string ⟨#[]⟩, .string ⟨#[]⟩] 24 (0, 0))) := ⟨blk_put hx 5 _ rfl⟩
      clear hs hx hb hf
      go_wp2_with fail
      refine (c32_calls _ B g _ HB.out HZ.out).mono ?_
      rintro e wn ⟨rfl, hb, hf⟩
      have hx := hf.blk HX.out (Ne.symm hne)
      have hc : wn.cell? ⟨bx, 6, none⟩ = some (.int .i64 0) := blk_cell hx 6
      have hz : wn.frozen? ⟨bx, 6, none⟩ = false := blk_frozen hx 6
      have hs := (Frm.refl (fun q => q = bx) wn).setCell (p := ⟨bx, 6, none⟩) (.inl rfl) (.int .i64 (nm (((((((c.adv 2).adv 2).adv 2).adv 2).adv 2).adv 4).next 4)))
      replace HG := Aside0.mk ((Frm.chain HG.out hf).trans hs (fun q hq => .inr (by rw [hq, ← HBX.out]; exact Nat.le_refl _)))
      replace HZ := Aside0.mk (Nat.le_trans (Nat.le_trans HZ.out hf.size) hs.size)
      replace HB := Aside0.mk (hb.frm hs (fun q hq h => by omega))
      replace HX : Aside0 ((wn.setCell ⟨bx, 6, none⟩ (.int .i64 (nm (((((((c.adv 2).adv 2).adv 2).adv 2).adv 2).adv 4).next 4)))).heap[bx]? = some (.cells #[.int .i64 (nm (c.next 2)), .int .i64 (nm ((c.adv 2).next 2)), .int .i64 (nm (((c.adv 2).adv 2).next 2)), .int .i64 (nm ((((c.adv 2).adv 2).adv 2).next 2)), .int .i64 (nm (((((c.adv 2).adv 2).adv 2).adv 2).next 2)), .int .u32 (nm ((((((c.adv 2).adv 2).adv 2).adv 2).adv 2).next 4) % 4294967296), .int .i64 (nm (((((((c.adv 2).adv 2).adv 2).adv 2).adv 2).adv 4).next 4)), .int .i64 0, .string ⟨#[]⟩, .string ⟨#[]⟩] 24 (0, 0))) := ⟨blk_put hx 6 _ rfl⟩
      clear hs hx hb hf
      go_wp2_with fail
      refine (c32_calls _ B g _ HB.out HZ.out).mono ?_
      rintro e wn ⟨rfl, hb, hf⟩
      have hx := hf.blk HX.out (Ne.symm hne)
      have hc : wn.cell? ⟨bx, 7, none⟩ = some (.int .i64 0) := blk_cell hx 7
      have hz : wn.frozen? ⟨bx, 7, none⟩ = false := blk_frozen hx 7
      have hs := (Frm.refl (fun q => q = bx) wn).setCell (p := ⟨bx, 7, none⟩) (.inl rfl) (.int .i64 (nm ((((((((c.adv 2).adv 2).adv 2).adv 2).adv 2).adv 4).adv 4).next 4)))
      replace HG := Aside0.mk ((Frm.chain HG.out hf).trans hs (fun q hq => .inr (by rw [hq, ← HBX.out]; exact Nat.le_refl _)))
      replace HZ := Aside0.mk (Nat.le_trans (Nat.le_trans HZ.out hf.size) hs.size)
      replace HB := Aside0.mk (hb.frm hs (fun q hq h => by omega))
      replace HX : Aside0 ((wn.setCell ⟨bx, 7, none⟩ (.int .i64 (nm ((((((((c.adv 2).adv 2).adv 2).adv 2).adv 2).adv 4).adv 4).next 4)))).heap[bx]? = some (.cells #[.int .i64 (nm (c.next 2)), .int .i64 (nm ((c.adv 2).next 2)), .int .i64 (nm (((c.adv 2).adv 2).next 2)), .int .i64 (nm ((((c.adv 2).adv 2).adv 2).next 2)), .int .i64 (nm (((((c.adv 2).adv 2).adv 2).adv 2).next 2)), .int .u32 (nm ((((((c.adv 2).adv 2).adv 2).adv 2).adv 2).next 4) % 4294967296), .int .i64 (nm (((((((c.adv 2).adv 2).adv 2).adv 2).adv 2).adv 4).next 4)), .int .i64 (nm ((((((((c.adv 2).adv 2).adv 2).adv 2).adv 2).adv 4).adv 4).next 4)), .string ⟨#[]⟩, .string ⟨#[]⟩] 24 (0, 0))) := ⟨blk_put hx 7 _ rfl⟩
      clear hs hx hb hf
      go_wp2_with fail
      clear hc hz
      refine (c16_calls _ B g _ HB.out HZ.out).mono ?_
      rintro e wn ⟨rfl, hb, hf⟩
      have hx := hf.blk HX.out (Ne.symm hne)
      replace HG := Aside0.mk (Frm.chain HG.out hf)
      replace HZ := Aside0.mk (Nat.le_trans HZ.out hf.size)
      replace HB := Aside0.mk hb
      replace HX := Aside0.mk hx
      clear hx hb hf
      go_wp2_with fail
      refine (c16_calls _ B g _ HB.out HZ.out).mono ?_
      rintro e wn ⟨rfl, hb, hf⟩
      have hx := hf.blk HX.out (Ne.symm hne)
      replace HG := Aside0.mk (Frm.chain HG.out hf)
      replace HZ := Aside0.mk (Nat.le_trans HZ.out hf.size)
      replace HB := Aside0.mk hb
      replace HX := Aside0.mk hx
      clear hx hb hf
      have y0 : wn.cell? ⟨bx, 0, none⟩ = some (.int .i64 (nm (c.next 2))) := blk_cell HX.out 0
      have y1 : wn.cell? ⟨bx, 1, none⟩ = some (.int .i64 (nm ((c.adv 2).next 2))) := blk_cell HX.out 1
      have y2 : wn.cell? ⟨bx, 2, none⟩ = some (.int .i64 (nm (((c.adv 2).adv 2).next 2))) := blk_cell HX.out 2
      have y3 : wn.cell? ⟨bx, 3, none⟩ = some (.int .i64 (nm ((((c.adv 2).adv 2).adv 2).next 2))) := blk_cell HX.out 3
      have y4 : wn.cell? ⟨bx, 4, none⟩ = some (.int .i64 (nm (((((c.adv 2).adv 2).adv 2).adv 2).next 2))) := blk_cell HX.out 4
      have y5 : wn.cell? ⟨bx, 5, none⟩ = some (.int .u32 (nm ((((((c.adv 2).adv 2).adv 2).adv 2).adv 2).next 4) % 4294967296)) := blk_cell HX.out 5
      have y6 : wn.cell? ⟨bx, 6, none⟩ = some (.int .i64 (nm (((((((c.adv 2).adv 2).adv 2).adv 2).adv 2).adv 4).next 4))) := blk_cell HX.out 6
      have y7 : wn.cell? ⟨bx, 7, none⟩ = some (.int .i64 (nm ((((((((c.adv 2).adv 2).adv 2).adv 2).adv 2).adv 4).adv 4).next 4))) := blk_cell HX.out 7
      have y8 : wn.cell? ⟨bx, 8, none⟩ = some (.string ⟨#[]⟩) := blk_cell HX.out 8
      have y9 : wn.cell? ⟨bx, 9, none⟩ = some (.string ⟨#[]⟩) := blk_cell HX.out 9
      have z0 : wn.frozen? ⟨bx, 0, none⟩ = false := blk_frozen HX.out 0
      have z1 : wn.frozen? ⟨bx, 1, none⟩ = false := blk_frozen HX.out 1
      have z2 : wn.frozen? ⟨bx, 2, none⟩ = false := blk_frozen HX.out 2
      have z3 : wn.frozen? ⟨bx, 3, none⟩ = false := blk_frozen HX.out 3
      have z4 : wn.frozen? ⟨bx, 4, none⟩ = false := blk_frozen HX.out 4
      have z5 : wn.frozen? ⟨bx, 5, none⟩ = false := blk_frozen HX.out 5
      have z6 : wn.frozen? ⟨bx, 6, none⟩ = false := blk_frozen HX.out 6
      have z7 : wn.frozen? ⟨bx, 7, none⟩ = false := blk_frozen HX.out 7
      have z8 : wn.frozen? ⟨bx, 8, none⟩ = false := blk_frozen HX.out 8
      have z9 : wn.frozen? ⟨bx, 9, none⟩ = false := blk_frozen HX.out 9
      go_wp2_with fail
      refine bodyPost_ret (results_list (rs := [.cell 2 24, .tmp 3, .tmp 4]) rfl (by simp) (.cell bx 24 #[.int .i64 (nm (c.next 2)), .int .i64 (nm ((c.adv 2).next 2)), .int .i64 (nm (((c.adv 2).adv 2).next 2)), .int .i64 (nm ((((c.adv 2).adv 2).adv 2).next 2)), .int .i64 (nm (((((c.adv 2).adv 2).adv 2).adv 2).next 2)), .int .u32 (nm ((((((c.adv 2).adv 2).adv 2).adv 2).adv 2).next 4) % 4294967296), .int .i64 (nm (((((((c.adv 2).adv 2).adv 2).adv 2).adv 2).adv 4).next 4)), .int .i64 (nm ((((((((c.adv 2).adv 2).adv 2).adv 2).adv 2).adv 4).adv 4).next 4)), .string ⟨#[]⟩, .string ⟨#[]⟩] (0, 0) _ rfl (blk_put (cs := #[.int .i64 (nm (c.next 2)), .int .i64 (nm ((c.adv 2).next 2)), .int .i64 (nm (((c.adv 2).adv 2).next 2)), .int .i64 (nm ((((c.adv 2).adv 2).adv 2).next 2)), .int .i64 (nm (((((c.adv 2).adv 2).adv 2).adv 2).next 2)), .int .u32 (nm ((((((c.adv 2).adv 2).adv 2).adv 2).adv 2).next 4) % 4294967296), .int .i64 (nm (((((((c.adv 2).adv 2).adv 2).adv 2).adv 2).adv 4).next 4)), .int .i64 (nm ((((((((c.adv 2).adv 2).adv 2).adv 2).adv 2).adv 4).adv 4).next 4)), .string ⟨#[]⟩, .string ⟨#[]⟩]) (blk_put (cs := #[.int .i64 (nm (c.next 2)), .int .i64 (nm ((c.adv 2).next 2)), .int .i64 (nm (((c.adv 2).adv 2).next 2)), .int .i64 (nm ((((c.adv 2).adv 2).adv 2).next 2)), .int .i64 (nm (((((c.adv 2).adv 2).adv 2).adv 2).next 2)), .int .u32 (nm ((((((c.adv 2).adv 2).adv 2).adv 2).adv 2).next 4) % 4294967296), .int .i64 (nm (((((((c.adv 2).adv 2).adv 2).adv 2).adv 2).adv 4).next 4)), .int .i64 (nm ((((((((c.adv 2).adv 2).adv 2).adv 2).adv 2).adv 4).adv 4).next 4)), .string ⟨#[]⟩, .string ⟨#[]⟩]) (blk_put (cs := #[.int .i64 (nm (c.next 2)), .int .i64 (nm ((c.adv 2).next 2)), .int .i64 (nm (((c.adv 2).adv 2).next 2)), .int .i64 (nm ((((c.adv 2).adv 2).adv 2).next 2)), .int .i64 (nm (((((c.adv 2).adv 2).adv 2).adv 2).next 2)), .int .u32 (nm ((((((c.adv 2).adv 2).adv 2).adv 2).adv 2).next 4) % 4294967296), .int .i64 (nm (((((((c.adv 2).adv 2).adv 2).adv 2).adv 2).adv 4).next 4)), .int .i64 (nm ((((((((c.adv 2).adv 2).adv 2).adv 2).adv 2).adv 4).adv 4).next 4)), .string ⟨#[]⟩, .string ⟨#[]⟩]) (blk_put (cs := #[.int .i64 (nm (c.next 2)), .int .i64 (nm ((c.adv 2).next 2)), .int .i64 (nm (((c.adv 2).adv 2).next 2)), .int .i64 (nm ((((c.adv 2).adv 2).adv 2).next 2)), .int .i64 (nm (((((c.adv 2).adv 2).adv 2).adv 2).next 2)), .int .u32 (nm ((((((c.adv 2).adv 2).adv 2).adv 2).adv 2).next 4) % 4294967296), .int .i64 (nm (((((((c.adv 2).adv 2).adv 2).adv 2).adv 2).adv 4).next 4)), .int .i64 (nm ((((((((c.adv 2).adv 2).adv 2).adv 2).adv 2).adv 4).adv 4).next 4)), .string ⟨#[]⟩, .string ⟨#[]⟩]) (blk_put (cs := #[.int .i64 (nm (c.next 2)), .int .i64 (nm ((c.adv 2).next 2)), .int .i64 (nm (((c.adv 2).adv 2).next 2)), .int .i64 (nm ((((c.adv 2).adv 2).adv 2).next 2)), .int .i64 (nm (((((c.adv 2).adv 2).adv 2).adv 2).next 2)), .int .u32 (nm ((((((c.adv 2).adv 2).adv 2).adv 2).adv 2).next 4) % 4294967296), .int .i64 (nm (((((((c.adv 2).adv 2).adv 2).adv 2).adv 2).adv 4).next 4)), .int .i64 (nm ((((((((c.adv 2).adv 2).adv 2).adv 2).adv 2).adv 4).adv 4).next 4)), .string ⟨#[]⟩, .string ⟨#[]⟩]) (blk_put (cs := #[.int .i64 (nm (c.next 2)), .int .i64 (nm ((c.adv 2).next 2)), .int .i64 (nm (((c.adv 2).adv 2).next 2)), .int .i64 (nm ((((c.adv 2).adv 2).adv 2).next 2)), .int .i64 (nm (((((c.adv 2).adv 2).adv 2).adv 2).next 2)), .int .u32 (nm ((((((c.adv 2).adv 2).adv 2).adv 2).adv 2).next 4) % 4294967296), .int .i64 (nm (((((((c.adv 2).adv 2).adv 2).adv 2).adv 2).adv 4).next 4)), .int .i64 (nm ((((((((c.adv 2).adv 2).adv 2).adv 2).adv 2).adv 4).adv 4).next 4)), .string ⟨#[]⟩, .string ⟨#[]⟩]) (blk_put (cs := #[.int .i64 (nm (c.next 2)), .int .i64 (nm ((c.adv 2).next 2)), .int .i64 (nm (((c.adv 2).adv 2).next 2)), .int .i64 (nm ((((c.adv 2).adv 2).adv 2).next 2)), .int .i64 (nm (((((c.adv 2).adv 2).adv 2).adv 2).next 2)), .int .u32 (nm ((((((c.adv 2).adv 2).adv 2).adv 2).adv 2).next 4) % 4294967296), .int .i64 (nm (((((((c.adv 2).adv 2).adv 2).adv 2).adv 2).adv 4).next 4)), .int .i64 (nm ((((((((c.adv 2).adv 2).adv 2).adv 2).adv 2).adv 4).adv 4).next 4)), .string ⟨#[]⟩, .string ⟨#[]⟩]) (blk_put (cs := #[.int .i64 (nm (c.next 2)), .int .i64 (nm ((c.adv 2).next 2)), .int .i64 (nm (((c.adv 2).adv 2).next 2)), .int .i64 (nm ((((c.adv 2).adv 2).adv 2).next 2)), .int .i64 (nm (((((c.adv 2).adv 2).adv 2).adv 2).next 2)), .int .u32 (nm ((((((c.adv 2).adv 2).adv 2).adv 2).adv 2).next 4) % 4294967296), .int .i64 (nm (((((((c.adv 2).adv 2).adv 2).adv 2).adv 2).adv 4).next 4)), .int .i64 (nm ((((((((c.adv 2).adv 2).adv 2).adv 2).adv 2).adv 4).adv 4).next 4)), .string ⟨#[]⟩, .string ⟨#[]⟩]) (blk_put (cs := #[.int .i64 (nm (c.next 2)), .int .i64 (nm ((c.adv 2).next 2)), .int .i64 (nm (((c.adv 2).adv 2).next 2)), .int .i64 (nm ((((c.adv 2).adv 2).adv 2).next 2)), .int .i64 (nm (((((c.adv 2).adv 2).adv 2).adv 2).next 2)), .int .u32 (nm ((((((c.adv 2).adv 2).adv 2).adv 2).adv 2).next 4) % 4294967296), .int .i64 (nm (((((((c.adv 2).adv 2).adv 2).adv 2).adv 2).adv 4).next 4)), .int .i64 (nm ((((((((c.adv 2).adv 2).adv 2).adv 2).adv 2).adv 4).adv 4).next 4)), .string ⟨#[]⟩, .string ⟨#[]⟩]) (blk_put (cs := #[.int .i64 (nm (c.next 2)), .int .i64 (nm ((c.adv 2).next 2)), .int .i64 (nm (((c.adv 2).adv 2).next 2)), .int .i64 (nm ((((c.adv 2).adv 2).adv 2).next 2)), .int .i64 (nm (((((c.adv 2).adv 2).adv 2).adv 2).next 2)), .int .u32 (nm ((((((c.adv 2).adv 2).adv 2).adv 2).adv 2).next 4) % 4294967296), .int .i64 (nm (((((((c.adv 2).adv 2).adv 2).adv 2).adv 2).adv 4).next 4)), .int .i64 (nm ((((((((c.adv 2).adv 2).adv 2).adv 2).adv 2).adv 4).adv 4).next 4)), .string ⟨#[]⟩, .string ⟨#[]⟩]) HX.out 0 (.int .i64 (nm (c.next 2))) rfl) 1 (.int .i64 (nm ((c.adv 2).next 2))) rfl) 2 (.int .i64 (nm (((c.adv 2).adv 2).next 2))) rfl) 3 (.int .i64 (nm ((((c.adv 2).adv 2).adv 2).next 2))) rfl) 4 (.int .i64 (nm (((((c.adv 2).adv 2).adv 2).adv 2).next 2))) rfl) 5 (.int .u32 (nm ((((((c.adv 2).adv 2).adv 2).adv 2).adv 2).next 4) % 4294967296)) rfl) 6 (.int .i64 (nm (((((((c.adv 2).adv 2).adv 2).adv 2).adv 2).adv 4).next 4))) rfl) 7 (.int .i64 (nm ((((((((c.adv 2).adv 2).adv 2).adv 2).adv 2).adv 4).adv 4).next 4))) rfl) 8 (.string ⟨#[]⟩) rfl) 9 (.string ⟨#[]⟩) rfl) Try.underlying24 rfl Try.infoL (.tmp (.tmp .nil)))) rfl ?_
      have hs := (Frm.setCell (Frm.setCell (Frm.setCell (Frm.setCell (Frm.setCell (Frm.setCell (Frm.setCell (Frm.setCell (Frm.setCell (Frm.setCell (Frm.refl (fun q => q = bx) wn) (p := ⟨bx, 0, none⟩) (.inl rfl) (.int .i64 (nm (c.next 2)))) (p := ⟨bx, 1, none⟩) (.inl rfl) (.int .i64 (nm ((c.adv 2).next 2)))) (p := ⟨bx, 2, none⟩) (.inl rfl) (.int .i64 (nm (((c.adv 2).adv 2).next 2)))) (p := ⟨bx, 3, none⟩) (.inl rfl) (.int .i64 (nm ((((c.adv 2).adv 2).adv 2).next 2)))) (p := ⟨bx, 4, none⟩) (.inl rfl) (.int .i64 (nm (((((c.adv 2).adv 2).adv 2).adv 2).next 2)))) (p := ⟨bx, 5, none⟩) (.inl rfl) (.int .u32 (nm ((((((c.adv 2).adv 2).adv 2).adv 2).adv 2).next 4) % 4294967296))) (p := ⟨bx, 6, none⟩) (.inl rfl) (.int .i64 (nm (((((((c.adv 2).adv 2).adv 2).adv 2).adv 2).adv 4).next 4)))) (p := ⟨bx, 7, none⟩) (.inl rfl) (.int .i64 (nm ((((((((c.adv 2).adv 2).adv 2).adv 2).adv 2).adv 4).adv 4).next 4)))) (p := ⟨bx, 8, none⟩) (.inl rfl) (.string ⟨#[]⟩)) (p := ⟨bx, 9, none⟩) (.inl rfl) (.string ⟨#[]⟩))
      refine ⟨rfl, HB.out.frm hs (fun q hq h => by omega), HG.out.trans hs (fun q hq => .inr (by rw [hq, ← HBX.out]; exact Nat.le_refl _))⟩
end Go.Proofs.Ytkmnhlhpmfkloaa.Fld

/- SplitExtra of record, and the document's: walked by hand. -/
namespace Go.Proofs.Ytkmnhlhpmfkloaa.Fld
open Go.RowKit Go.Proofs.YtkmnhlhpmfkloaaW.PrintWords Go.Proofs.YtkmnhlhpmfkloaaW.PrintLast Go.Proofs.YtkmnhlhpmfkloaaW.PrintMore Go.Proofs.Ytkmnhlhpmfkloaa.Mem
set_option linter.unusedVariables false
set_option linter.unusedSimpArgs false

theorem bytes_C (w : World) (s : ByteArray) (hs : s.size ≤ 9223372036854775807) : Kd.C (Kd.int .u8) (Lib.bytesWorld w 5 s) (some ⟨w.heap.size, 0, none⟩) (bytesOf s).length (bytesOf s) := by
  rw [bytesOf_length]
  have h := bytes_reads w 5 s hs
  refine ⟨h.1, h.2.1, fun hn => ?_⟩
  obtain ⟨ad, e, hc⟩ := h.2.2 hn
  refine ⟨ad, e, fun j p hj => ⟨[.int .u8 p], rfl, rfl, fun i u hu => ?_⟩⟩
  have hi : i = 0 := by
    rcases Nat.eq_zero_or_pos i with h | h
    · exact h
    · rw [List.getElem?_eq_none (by simp; omega)] at hu; cases hu
  subst hi
  have he : u = .int .u8 p := by simpa using hu.symm
  subst he
  have hjl := (List.getElem?_eq_some_iff.1 hj).1
  rw [bytesOf_length] at hjl
  have h1 : (Kd.int .u8).sz = 1 := rfl
  rw [h1, Nat.mul_one, Nat.add_zero, hc j hjl, List.getD_eq_getElem?_getD, hj]
  rfl


def encX (f : Int × ByteArray) : List Value := [.int .i64 f.1, .string f.2]
theorem encX_len (f : Int × ByteArray) : (encX f).length = 2 := rfl
/-- The fields from the cursor's place on; none: too few rounds. -/
def splitGo : Nat → CS → List (Int × ByteArray) → List (Int × ByteArray) × Int
  | 0, _, acc => (acc, 0)
  | k + 1, c, acc => if c.at_ < c.data.length then
      (let n := nm ((c.adv 2).next 2)
       let c3 := ((c.adv 2).adv 2).adv n.toNat
       if c3.err ≠ 0 then ([], 122) else splitGo k c3 (acc ++ [(nm (c.next 2), strOfNums (((c.adv 2).adv 2).next n.toNat))]))
    else (acc, 0)
def splitF (s : ByteArray) : List (Int × ByteArray) × Int := if (65535 : Int) < s.size then ([], 124) else splitGo (s.size + 1) ⟨bytesOf s, 0, 0⟩ []
theorem splitGo_step (k : Nat) (c : CS) (acc : List (Int × ByteArray)) (h : c.at_ < c.data.length) :
    splitGo (k + 1) c acc = if (((c.adv 2).adv 2).adv (nm ((c.adv 2).next 2)).toNat).err ≠ 0 then ([], 122) else splitGo k (((c.adv 2).adv 2).adv (nm ((c.adv 2).next 2)).toNat) (acc ++ [(nm (c.next 2), strOfNums (((c.adv 2).adv 2).next (nm ((c.adv 2).next 2)).toNat))]) := by
  rw [splitGo, if_pos h]
theorem splitGo_end (k : Nat) (c : CS) (acc : List (Int × ByteArray)) (h : ¬ c.at_ < c.data.length) : splitGo k c acc = (acc, 0) := by
  cases k with
  | zero => rfl
  | succ k => rw [splitGo, if_neg h]
theorem adv_at_le {c : CS} {n : Nat} (h : c.at_ ≤ c.data.length) : c.at_ ≤ (c.adv n).at_ ∧ (c.adv n).at_ ≤ (c.adv n).data.length := by
  rw [adv_data]
  unfold CS.adv
  split
  · exact ⟨Nat.le_refl _, h⟩
  · split
    · exact ⟨Nat.le_refl _, h⟩
    · simp only; omega
theorem adv_err {c : CS} {n : Nat} (h : (c.adv n).err = 0) : c.err = 0 ∧ (c.adv n).at_ = c.at_ + n := by
  unfold CS.adv at *
  split at h
  · rename_i h1; exact absurd h h1
  · rename_i h1
    split at h
    · cases h
    · rename_i h2
      rw [if_neg h1, if_neg h2]
      exact ⟨by omega, rfl⟩
theorem adv_more {c : CS} (n : Nat) (h : c.at_ ≤ c.data.length) (he : (((c.adv 2).adv 2).adv n).err = 0) : c.at_ + 4 ≤ (((c.adv 2).adv 2).adv n).at_ := by
  obtain ⟨h1, h2⟩ := adv_err he
  obtain ⟨h3, h4⟩ := adv_err h1
  obtain ⟨h5, h6⟩ := adv_err h3
  omega
theorem Try.infoX : (Try.prog.info? 49).map (fun i => (i.zero, i.size, i.bytes)) = some (some (.agg #[.int .i64 0, .string ⟨#[]⟩]), 2, 24) := by kernel_rfl
theorem row_call {wr wn : World} {B g base n : Nat} {c : CS} {v : Value} {xs : List Value} (ho : wr.ownsRow base 49 2 v n xs) (hc : Cur wr B g c) (hf : Frm (fun q => q = g) wr wn) : wn.ownsRow base 49 2 v n xs := by
  obtain ⟨A, cp, hg, _⟩ := hc
  exact hf.row ho (by rintro k hk rfl; exact own_ne ho hg (by decide) hk.symm)
theorem Cur.grown {W w1 : World} {B g base n : Nat} {c : CS} {v : Value} {xs : List Value} (h : Cur W B g c) (ho : W.ownsRow base 49 2 v n xs) (hg : W.grownBy w1 v.ownBlock) : Cur w1 B g c := by
  obtain ⟨A, cp, hb, hr, h1, h2⟩ := h
  refine ⟨A, cp, blk_grown hb hg (own_ne ho hb (by decide)), ?_, h1, h2⟩
  rcases ho.2 with ⟨rfl, _⟩ | ⟨k, cap, cur, rfl, _, hk, _⟩
  · exact Kd.R_grown hr hg (fun _ _ => by simp [Value.ownBlock])
  · exact Kd.R_mono (Kd.R_grown (Kd.R_types hr hk (by intro q hq; simp [Kd.int, Kd.scalar] at hq; omega)) hg (fun q hq => by simp only [Value.ownBlock, ne_eq, Option.some.injEq]; exact hq.2)) (fun _ hq => hq.1)
theorem Cur.alloc {W : World} {B g : Nat} {c : CS} (h : Cur W B g c) (o : Obj) : Cur (W.alloc o) B g c := h.frm ((Frm.refl (fun _ => False) W).alloc o) (fun _ _ e => e)
theorem below_app {w W w1 : World} {n : Nat} {o : Obj} {v : Value} {xs : List Value} (h : Below w.heap.size w W) (ho : W.ownsRow w.heap.size 49 2 v n xs) (hg : (W.alloc o).grownBy w1 v.ownBlock) : Below w.heap.size w w1 :=
  (below_alloc h o).grown hg (by have := h.size; simp; omega) (own_base ho)
theorem flatX_snoc (l : List (Int × ByteArray)) (t : Int) (d : ByteArray) : (l ++ [(t, d)]).flatMap encX = l.flatMap encX ++ [.int .i64 t, .string d] := by simp [encX]

set_option maxHeartbeats 8000000 in
set_option maxRecDepth 100000 in
theorem split_calls (w : World) (s : ByteArray) :
    Calls Try.prog 23 #[.string s] w fun e w' => ∃ v, e = .returned (.tuple #[v, .int .i64 (splitF s).2]) ∧ w'.ownsRow w.heap.size 49 2 v (splitF s).1.length ((splitF s).1.flatMap encX) ∧ Below w.heap.size w w' := by
  by_cases hbig : (65535 : Int) < s.size
  · have hbb : decide ((65535 : Int) < s.size) = true := decide_eq_true hbig
    rw [show splitF s = ([], 124) from if_pos hbig]
    clear hbig
    go_enter Try.func23, Try.ntmps23
    go_wp2
    go_ret2
    exact ⟨_, rfl, own_nil _ _ _ _, Below.refl _ _⟩
  · have hbb : decide ((65535 : Int) < s.size) = false := decide_eq_false hbig
    have HSF := Aside0.mk (show splitF s = splitGo (s.size + 1) ⟨bytesOf s, 0, 0⟩ [] from if_neg hbig)
    obtain ⟨j0, hj0, hy0, hy1, hy2⟩ := info_parts Try.infoX
    have kb := fun W => print_bytes (P := Try.prog) 9 25 5 Try.underlying9 Try.underlying25 Try.underlying5 s W
    have hrd := bytes_C w s (by omega)
    have hbl := bytesOf_length s
    have hN := cnew_calls (Lib.bytesWorld w 5 s) (some ⟨w.heap.size, 0, none⟩) (grownCap w s.size 0 5) (bytesOf s) hrd (by rw [hbl]; exact grownCap_ge _ _ _ _) (by rw [hbl]; omega) (fun x hx => by
      rw [bytesOf, List.mem_map] at hx
      obtain ⟨b, _, rfl⟩ := hx
      have := b.toNat_lt
      omega)
    rw [hbl] at hN
    have HN := Aside0.mk hN
    have HBL := Aside0.mk hbl
    have HB0 := Aside0.mk (bytes_below (Below.refl w.heap.size w) (Nat.le_refl _) 5 s)
    have hs2 : s.size ≤ 65535 := by omega
    clear hrd hN hbl hbig
    go_enter Try.func23, Try.ntmps23
    go_wp2_with fail
    refine HN.out.mono ?_
    rintro e w1 ⟨g, B, rfl, hg, hB, hcur, hbel⟩
    have HC := Aside0.mk hcur
    have HZ := Aside0.mk hB
    have HG := Aside0.mk (HB0.out.trans (hbel.mono HB0.out.size))
    have HGG := Aside0.mk (Nat.le_trans HB0.out.size hg)
    clear hcur hB hbel hg HN HB0
    go_wp2_with fail
    go_loopg [5] (s.size + 2) (fun gk v5 wr => ∃ (c : CS) (acc : List (Int × ByteArray)) (k : Nat) (A5 : Option Addr) (c5 : Nat), v5 = .slice A5 acc.length c5 ∧ acc.length * 4 ≤ c.at_ ∧ c.data.length = s.size ∧ c.at_ ≤ c.data.length ∧ s.size + 1 ≤ c.at_ + k ∧ s.size + 1 ≤ c.at_ + gk ∧
      Aside0 (Cur wr B g c) ∧ Aside0 (B ≤ wr.heap.size) ∧ Aside0 (Below w.heap.size w wr) ∧ Aside0 (wr.ownsRow w.heap.size 49 2 (.slice A5 acc.length c5) acc.length (acc.flatMap encX)) ∧ Aside0 (splitF s = splitGo k c acc))
    case atStart => exact ⟨⟨bytesOf s, 0, 0⟩, [], s.size + 1, none, 0, rfl, by simp, HBL.out, Nat.zero_le _, by simp, by simp, HC, HZ, HG, ⟨own_nil _ _ _ _⟩, HSF⟩
    case round =>
      obtain ⟨c, acc, k, A5, c5, rfl, hacc, hdl, hat, hk, hgk, HCk, HZk, HGk, HOk, HEk⟩ := hrel
      clear HC HZ HG HSF
      by_cases hlt : c.at_ < c.data.length
      · have hltb : decide ((0 : Int) < (c.data.length : Int) - (c.at_ : Int)) = true := decide_eq_true (by omega)
        obtain ⟨k, rfl⟩ : ∃ q, k = q + 1 := ⟨k - 1, by omega⟩
        have hy : ∀ x ∈ c.data, 0 ≤ x ∧ x < 256 := by obtain ⟨_, _, _, _, _, _, _, hy⟩ := HCk.out; exact hy
        obtain ⟨m, hm⟩ : ∃ m : Nat, nm ((c.adv 2).next 2) = (m : Int) := ⟨(nm ((c.adv 2).next 2)).toNat, (Int.toNat_of_nonneg (nm_ok (c := c.adv 2) (n := 2) (by rw [adv_data]; exact hy) (by omega)).1).symm⟩
        have hm2 : (m : Int) ≤ 4611686018427387904 := by have := (nm_ok (c := c.adv 2) (n := 2) (by rw [adv_data]; exact hy) (by omega)).2; omega
        have hst := splitGo_step k c acc hlt
        rw [hm, Int.toNat_natCast] at hst
        have HST := Aside0.mk hst
        have HM := Aside0.mk hm
        obtain ⟨t, ht⟩ : ∃ t, nm (c.next 2) = t := ⟨_, rfl⟩
        obtain ⟨d, hd⟩ : ∃ d, strOfNums (((c.adv 2).adv 2).next m) = d := ⟨_, rfl⟩
        have HTT := Aside0.mk ht
        have HDD := Aside0.mk hd
        have hsz : acc.length ≤ 65535 := by omega
        clear hst hm ht hd hy
        go_wp2_with fail
        refine (left_calls _ B g _ HCk.out).mono ?_
        rintro e w2 ⟨rfl, nq, rfl⟩
        go_wp2_with fail
        refine (c16_calls _ B g _ (show Cur (wr.drewN nq) B g c from HCk.out) HZk.out).mono ?_
        rw [HTT.out]
        rintro e w3 ⟨rfl, hb, hf⟩
        have HC2 := Aside0.mk hb
        have HZ2 := Aside0.mk (Nat.le_trans HZk.out hf.size)
        have HO2 := Aside0.mk (row_call (wr := wr.drewN nq) HOk.out HCk.out hf)
        have hGd : Below w.heap.size w (wr.drewN nq) := ⟨HGk.out.os, HGk.out.tape, HGk.out.output, HGk.out.size, HGk.out.block⟩
        have HG2 := Aside0.mk (hGd.trans (hf.to_below HGk.out.size (fun q hq => by rw [hq]; exact HGG.out)))
        clear hGd
        clear hb hf HCk HZk HOk HGk
        go_wp2_with fail
        refine (c16_calls _ B g _ HC2.out HZ2.out).mono ?_
        rw [HM.out]
        rintro e w4 ⟨rfl, hb, hf⟩
        have HC3 := Aside0.mk hb
        have HZ3 := Aside0.mk (Nat.le_trans HZ2.out hf.size)
        have HO3 := Aside0.mk (row_call HO2.out HC2.out hf)
        have HG3 := Aside0.mk (HG2.out.trans (hf.to_below HG2.out.size (fun q hq => by rw [hq]; exact HGG.out)))
        clear hb hf HC2 HZ2 HO2 HG2
        go_wp2_with fail
        refine (ctext_calls _ B g _ m HC3.out hm2).mono ?_
        rw [HDD.out]
        rintro e w5 ⟨rfl, hb, hf⟩
        have HC4 := Aside0.mk hb
        have HZ4 := Aside0.mk (Nat.le_trans HZ3.out hf.size)
        have HO4 := Aside0.mk (row_call HO3.out HC3.out hf)
        have HG4 := Aside0.mk (HG3.out.trans (hf.to_below HG3.out.size (fun q hq => by rw [hq]; exact HGG.out)))
        clear hb hf HC3 HZ3 HO3 HG3
        have hw5 := HG4.out.size
        go_wp2_with (at_builtin; refine wpList_append_lies _ (by rfl) _ _ _ (by rfl) w.heap.size 49 j0 _ 2 24 Try.underlying42 hj0 hy0 hy1 hy2 rfl (by omega) (.slice A5 acc.length c5) acc.length (acc.flatMap encX) ?b1 (HO4.out.alloc _) ⟨w5.heap.size, 0, none⟩ 1 1 [.int .i64 t, .string d] ?b2 ?b3 ?b4 ?b5 (by omega) ?b7 ?b8 ?b9 (w5.heap.size + 1) ?b10 ?b11; (case b1 => rfl); (case b2 => rfl); (case b3 => rfl); (case b4 => exact World.news_of_block (cs := #[.int .i64 t, .string d]) (t := 49) (fr := (0, 0)) (heap_alloc_new w5 _)); (case b5 => simp [Value.oneCell']); (case b7 => simp only [maxLen]; omega); (case b8 => omega); (case b9 => simp; omega); (case b10 => simp); intro gg cap w6 hown1 hgrow hat6 hlt6)
        have HC5 := Aside0.mk ((HC4.out.alloc (.cells #[.int .i64 t, .string d] 49)).grown (HO4.out.alloc _) hgrow)
        have HZ5 := Aside0.mk (Nat.le_trans HZ4.out (Nat.le_trans (by simp) hgrow.size))
        have HG5 := Aside0.mk (below_app HG4.out HO4.out hgrow)
        have HO5 := Aside0.mk hown1
        clear hown1 hgrow hat6 hlt6 HC4 HZ4 HO4 HG4 hw5
        refine (cerr_calls _ B g _ HC5.out).mono ?_
        rintro e w7 ⟨rfl, nr, rfl⟩
        have hG7 : Below w.heap.size w (w6.drewN nr) := ⟨HG5.out.os, HG5.out.tape, HG5.out.output, HG5.out.size, HG5.out.block⟩
        have HG7 := Aside0.mk hG7
        have HAT := Aside0.mk (fun he => adv_more (c := c) m hat he)
        clear hG7
        by_cases he : (((c.adv 2).adv 2).adv m).err = 0
        · have heb : ((((c.adv 2).adv 2).adv m).err != 0) = false := by simpa using he
          have HE2 := Aside0.mk (show splitF s = splitGo k (((c.adv 2).adv 2).adv m) (acc ++ [(t, d)]) by rw [HEk.out, HST.out, if_neg (by simpa using he), HTT.out, HDD.out])
          have HA2 := HAT.out he
          have HL2 := (adv_at_le (c := (c.adv 2).adv 2) (n := m) (adv_at_le (c := c.adv 2) (n := 2) (adv_at_le (c := c) (n := 2) hat).2).2).2
          have HD2 : (((c.adv 2).adv 2).adv m).data.length = s.size := by rw [adv_data, adv_data, adv_data, hdl]
          have HX2 := Aside0.mk (And.intro HA2 (And.intro HL2 HD2))
          clear HA2 HL2 HD2 HAT HST HEk he
          go_wp2_with fail
          go_roundg (s.size - c.at_)
          case measure => omega
          case rel =>
            obtain ⟨h1, h2, h3⟩ := HX2.out
            exact ⟨((c.adv 2).adv 2).adv m, acc ++ [(t, d)], k, some ⟨gg, 0, none⟩, cap, by simp, by simp; omega, h3, h2, by omega, by omega, ⟨show Cur (w6.drewN nr) B g _ from HC5.out⟩, HZ5, HG7, ⟨by rw [flatX_snoc, List.length_append]; exact HO5.out⟩, HE2⟩
        · have heb : ((((c.adv 2).adv 2).adv m).err != 0) = true := by simpa using he
          have HE2 := Aside0.mk (show splitF s = ([], 122) by rw [HEk.out, HST.out, if_pos (by simpa using he)])
          go_wp2_with fail
          go_ret2
          exact ⟨_, by rw [HE2.out]; rfl, by rw [HE2.out]; exact own_nil _ _ _ _, HG7.out⟩
      · have hltb : decide ((0 : Int) < (c.data.length : Int) - (c.at_ : Int)) = false := decide_eq_false (by omega)
        have HF := Aside0.mk (HEk.out.trans (splitGo_end k c acc hlt))
        go_wp2_with fail
        refine (left_calls _ B g _ HCk.out).mono ?_
        rintro e w2 ⟨rfl, nq, rfl⟩
        go_wp2_with fail
        go_ret2
        exact ⟨_, by rw [HF.out]; rfl, by rw [HF.out]; exact HOk.out, ⟨HGk.out.os, HGk.out.tape, HGk.out.output, HGk.out.size, HGk.out.block⟩⟩

set_option maxHeartbeats 4000000 in
set_option maxRecDepth 100000 in
theorem rnumber_calls (w : World) (A : Option Addr) (cp : Nat) (l : List Int) (x : Int) (n : Nat) (hC : Kd.C (Kd.int .u8) w A l.length l) (hl : l.length ≤ 140737488355328) (hy : ∀ x ∈ l, 0 ≤ x ∧ x < 256) (hx0 : 0 ≤ x) (hx1 : x + n ≤ l.length) (hn : n ≤ 4) :
    Calls Try.prog 60 #[.slice A l.length cp, .int .i64 x, .int .i64 n] w fun e w' => e = .returned (.int .i64 (nm ((l.take (x.toNat + n)).drop x.toNat))) ∧ Drawn0 w w' := by
  obtain ⟨a, rfl⟩ := Int.eq_ofNat_of_zero_le hx0
  rw [Int.toNat_natCast]
  have hlen := mid_len (l := l) (a := a) (n := n) (by omega)
  have HY := Aside0.mk (show ∀ z ∈ (l.take (a + n)).drop a, 0 ≤ z ∧ z < 256 from fun z hz => hy z (List.mem_of_mem_take (List.mem_of_mem_drop hz)))
  have HG := Aside0.mk (show ∀ j, j < n → ((l.take (a + n)).drop a).getD j 0 = l.getD (a + j) 0 from fun j hj => by
    rw [List.getD_eq_getElem?_getD, List.getD_eq_getElem?_getD, List.getElem?_drop, List.getElem?_take_of_lt (by omega)])
  have HC := Aside0.mk hC
  have HL := Aside0.mk hlen
  clear hC hy hlen
  generalize (l.take (a + n)).drop a = part at HY HG HL ⊢
  go_enter Try.func60, Try.ntmps60
  go_wp2
  go_loopg [7, 8] 6 (fun gk v7 v8 wr => ∃ (j q : Nat), v7 = .int .i64 (nm (part.drop j)) ∧ v8 = .int .i64 ((j : Int) - 1) ∧ j ≤ n ∧ j + 1 ≤ gk ∧ wr = w.drewN q)
  case atStart => exact ⟨n, 0, by rw [List.drop_eq_nil_of_le (by rw [HL.out]; exact Nat.le_refl _)]; rfl, by first | rfl | (rw [IntWalk.i64_in _ (by omega)]), Nat.le_refl _, by omega, rfl⟩
  case round =>
    obtain ⟨j, q, rfl, rfl, hj, hjk, rfl⟩ := hrel
    by_cases h0 : j = 0
    · subst h0
      go_wp2
      go_ret
      exact ⟨rfl, ⟨_, rfl⟩⟩
    · obtain ⟨j, rfl⟩ : ∃ q, j = q + 1 := ⟨j - 1, by omega⟩
      have ej : (((j + 1 : Nat) : Int) - 1) = (j : Int) := by omega
      rw [ej]
      clear ej
      obtain ⟨ad, hA, hcell⟩ := ReadsOf.at_ (Kd.reads_of_C (enc := Value.int .u8) (d := (0 : Int)) (h1 := fun _ => rfl) HC.out) ((a : Int) + (j : Int)) (by omega) (by omega)
      have hLL := HL.out
      have hxj : rdOf 0 l ((a : Int) + (j : Int)) = part.getD j 0 := by
        rw [HG.out j (by omega), rdOf, show ((a : Int) + (j : Int)).toNat = a + j by omega]
      rw [hxj, show ((a : Int) + (j : Int)).toNat = a + j by omega] at hcell
      have hx := HY.out (part.getD j 0) (by rw [List.getD_eq_getElem?_getD, List.getElem?_eq_getElem (by omega)]; exact List.getElem_mem _)
      subst hA
      have hr0 : 0 ≤ nm (part.drop (j + 1)) ∧ nm (part.drop (j + 1)) < 16777216 := by
        have h1 := nm_range (part.drop (j + 1)) (fun x hx => HY.out x (List.mem_of_mem_drop hx))
        have h2 : (part.drop (j + 1)).length ≤ 3 := by rw [List.length_drop]; omega
        have h3 : (256 : Int) ^ (part.drop (j + 1)).length ≤ 256 ^ 3 := by
          generalize (part.drop (j + 1)).length = q at h2
          match q, h2 with
          | 0, _ => decide
          | 1, _ => decide
          | 2, _ => decide
          | 3, _ => decide
        omega
      have hstep : nm (part.drop j) = 256 * nm (part.drop (j + 1)) + part.getD j 0 := by
        rw [List.drop_eq_getElem_cons (by omega : j < part.length), nm, List.getD_eq_getElem?_getD, List.getElem?_eq_getElem (by omega)]
        simp only [Option.getD_some]
        omega
      have HST := Aside0.mk hstep
      have hcell' : (w.drewN q).cell? (ad.add (a + j)) = some (.int .u8 (part.getD j 0)) := hcell
      clear hstep hxj hLL hcell
      generalize part.getD j 0 = x at *
      generalize nm (part.drop (j + 1)) = v at *
      obtain ⟨hx0', hx1'⟩ := hx
      obtain ⟨hv0, hv1⟩ := hr0
      have q1 : (0 : Int) ≤ (a : Int) + (j : Int) := by omega
      have q2 : (a : Int) + (j : Int) < (l.length : Int) := by omega
      have q3 : ((a : Int) + (j : Int)).toNat = a + j := by omega
      have q4 : (a : Int) + (j : Int) ≤ 140737488355328 := by omega
      go_wp2
      go_roundg (j + 1)
      case measure => omega
      case rel => exact ⟨j, q, by rw [HST.out], rfl, by omega, by omega, rfl⟩
end Go.Proofs.Ytkmnhlhpmfkloaa.Fld

/- The document's SplitExtra: walked by hand. -/
namespace Go.Proofs.Ytkmnhlhpmfkloaa.Fld
open Go.RowKit Go.Proofs.YtkmnhlhpmfkloaaW.PrintWords Go.Proofs.YtkmnhlhpmfkloaaW.PrintLast Go.Proofs.YtkmnhlhpmfkloaaW.PrintMore Go.Proofs.Ytkmnhlhpmfkloaa.Mem
set_option linter.unusedVariables false
set_option linter.unusedSimpArgs false

theorem byteArray_ext {a b : ByteArray} (h : a.data.toList = b.data.toList) : a = b := by
  cases a; cases b
  simp only at h
  congr
  exact Array.toList_inj.1 h
theorem str_bytes (s : ByteArray) (a b : Nat) : strOfNums (((bytesOf s).take b).drop a) = s.extract a b := by
  apply byteArray_ext
  rw [Lib.extract_data]
  unfold strOfNums bytesOf
  rw [← List.map_take, ← List.map_drop, List.map_map, ← List.drop_take]
  have h : ((fun n : Int => UInt8.ofNat n.toNat) ∘ fun b : UInt8 => (b.toNat : Int)) = id := by
    funext x
    simp
  rw [h, List.map_id]

/-- The document's fields from a place on. -/
def rsplitGo (l : List Int) : Nat → Nat → List (Int × ByteArray) → List (Int × ByteArray) × Int
  | 0, _, acc => (acc, 0)
  | k + 1, a, acc => if a < l.length then
      (if (l.length : Int) - a < 4 then ([], 122) else
        (let n := nm ((l.take (a + 2 + 2)).drop (a + 2))
         if (l.length : Int) - a - 4 < n then ([], 122) else rsplitGo l k (a + 4 + n.toNat) (acc ++ [(nm ((l.take (a + 2)).drop a), strOfNums ((l.take (a + 4 + n.toNat)).drop (a + 4)))])))
    else (acc, 0)
def rsplitF (s : ByteArray) : List (Int × ByteArray) × Int := if (65535 : Int) < s.size then ([], 124) else rsplitGo (bytesOf s) (s.size + 1) 0 []
theorem rsplitGo_end (l : List Int) (k a : Nat) (acc : List (Int × ByteArray)) (h : ¬ a < l.length) : rsplitGo l k a acc = (acc, 0) := by
  cases k with
  | zero => rfl
  | succ k => rw [rsplitGo, if_neg h]
theorem rsplitGo_bad (l : List Int) (k a : Nat) (acc : List (Int × ByteArray)) (h : a < l.length) (h2 : (l.length : Int) - a < 4) : rsplitGo l (k + 1) a acc = ([], 122) := by rw [rsplitGo, if_pos h, if_pos h2]
theorem rsplitGo_short (l : List Int) (k a : Nat) (acc : List (Int × ByteArray)) (n : Int) (h : a < l.length) (h2 : ¬ (l.length : Int) - a < 4) (hn : nm ((l.take (a + 2 + 2)).drop (a + 2)) = n) (h3 : (l.length : Int) - a - 4 < n) : rsplitGo l (k + 1) a acc = ([], 122) := by
  rw [rsplitGo, if_pos h, if_neg h2]
  simp only [hn]
  rw [if_pos h3]
theorem rsplitGo_step (l : List Int) (k a : Nat) (acc : List (Int × ByteArray)) (n : Nat) (h : a < l.length) (h2 : ¬ (l.length : Int) - a < 4) (hn : nm ((l.take (a + 2 + 2)).drop (a + 2)) = (n : Int)) (h3 : ¬ (l.length : Int) - a - 4 < n) :
    rsplitGo l (k + 1) a acc = rsplitGo l k (a + 4 + n) (acc ++ [(nm ((l.take (a + 2)).drop a), strOfNums ((l.take (a + 4 + n)).drop (a + 4)))]) := by
  rw [rsplitGo, if_pos h, if_neg h2]
  simp only [hn, Int.toNat_natCast]
  rw [if_neg h3]

set_option maxHeartbeats 8000000 in
set_option maxRecDepth 100000 in
theorem rsplit_calls (w : World) (s : ByteArray) :
    Calls Try.prog 24 #[.string s] w fun e w' => ∃ v, e = .returned (.tuple #[v, .int .i64 (rsplitF s).2]) ∧ w'.ownsRow w.heap.size 49 2 v (rsplitF s).1.length ((rsplitF s).1.flatMap encX) ∧ Below w.heap.size w w' := by
  by_cases hbig : (65535 : Int) < s.size
  · have hbb : decide ((65535 : Int) < s.size) = true := decide_eq_true hbig
    rw [show rsplitF s = ([], 124) from if_pos hbig]
    clear hbig
    go_enter Try.func24, Try.ntmps24
    go_wp2
    go_ret2
    exact ⟨_, rfl, own_nil _ _ _ _, Below.refl _ _⟩
  · have hbb : decide ((65535 : Int) < s.size) = false := decide_eq_false hbig
    have HSF := Aside0.mk (show rsplitF s = rsplitGo (bytesOf s) (s.size + 1) 0 [] from if_neg hbig)
    obtain ⟨j0, hj0, hy0, hy1, hy2⟩ := info_parts Try.infoX
    have kb := fun W => print_bytes (P := Try.prog) 9 25 5 Try.underlying9 Try.underlying25 Try.underlying5 s W
    have hbl := bytesOf_length s
    have HRD : Aside0 (Kd.C (Kd.int .u8) (Lib.bytesWorld w 5 s) (some ⟨w.heap.size, 0, none⟩) (bytesOf s).length (bytesOf s)) := ⟨bytes_C w s (by omega)⟩
    have HY := Aside0.mk (fun x (hx : x ∈ bytesOf s) => show 0 ≤ x ∧ x < 256 by
      rw [bytesOf, List.mem_map] at hx
      obtain ⟨b, _, rfl⟩ := hx
      have := b.toNat_lt
      omega)
    have HB0 := Aside0.mk (bytes_below (Below.refl w.heap.size w) (Nat.le_refl _) 5 s)
    have hs2 : s.size ≤ 65535 := by omega
    have HBL := Aside0.mk hbl
    clear hbig hbl
    go_enter Try.func24, Try.ntmps24
    go_wp2_with fail
    generalize Lib.bytesWorld w 5 s = W0 at HRD HB0 ⊢
    go_loopg [5, 6] (s.size + 2) (fun gk v5 v6 wr => ∃ (a : Nat) (acc : List (Int × ByteArray)) (k : Nat) (A5 : Option Addr) (c5 : Nat), v5 = .slice A5 acc.length c5 ∧ v6 = .int .i64 a ∧ acc.length * 4 ≤ a ∧ a ≤ s.size ∧ s.size + 1 ≤ a + k ∧ s.size + 1 ≤ a + gk ∧
      Aside0 (Below W0.heap.size W0 wr) ∧ Aside0 (wr.ownsRow W0.heap.size 49 2 (.slice A5 acc.length c5) acc.length (acc.flatMap encX)) ∧ Aside0 (rsplitF s = rsplitGo (bytesOf s) k a acc))
    case atStart => exact ⟨0, [], s.size + 1, none, 0, rfl, rfl, by simp, Nat.zero_le _, by simp, by simp, ⟨Below.refl _ _⟩, ⟨own_nil _ _ _ _⟩, HSF⟩
    case round =>
      obtain ⟨a, acc, k, A5, c5, rfl, rfl, hacc, hat, hk, hgk, HDk, HOk, HEk⟩ := hrel
      clear HSF
      have HGk : Aside0 (Below w.heap.size w wr) := ⟨HB0.out.trans (HDk.out.mono HB0.out.size)⟩
      by_cases hlt : a < s.size
      · have hltb : decide ((a : Int) < (s.size : Int)) = true := decide_eq_true (by omega)
        obtain ⟨k, rfl⟩ : ∃ q, k = q + 1 := ⟨k - 1, by omega⟩
        have q1 : (0 : Int) ≤ (s.size : Int) - (a : Int) := by omega
        have q2 : (s.size : Int) - (a : Int) ≤ 65535 := by omega
        have hal : a < (bytesOf s).length := by rw [HBL.out]; exact hlt
        by_cases h4 : (s.size : Int) - (a : Int) < 4
        · have h4b : decide ((s.size : Int) - (a : Int) < 4) = true := decide_eq_true h4
          have HF := Aside0.mk (HEk.out.trans (rsplitGo_bad _ k a acc hal (by rw [HBL.out]; exact h4)))
          go_wp2_with fail
          go_ret2
          exact ⟨_, by rw [HF.out]; rfl, by rw [HF.out]; exact own_nil _ _ _ _, HGk.out⟩
        · have h4b : decide ((s.size : Int) - (a : Int) < 4) = false := decide_eq_false h4
          have hCk := C_below' HRD.out HDk.out
          have hn1 := fun W (hC : Kd.C (Kd.int .u8) W (some ⟨w.heap.size, 0, none⟩) (bytesOf s).length (bytesOf s)) => rnumber_calls W (some ⟨w.heap.size, 0, none⟩) (grownCap w s.size 0 5) (bytesOf s) (a : Int) 2 hC (by rw [HBL.out]; omega) HY.out (by omega) (by rw [HBL.out]; omega) (by omega)
          have hn2 := fun W (hC : Kd.C (Kd.int .u8) W (some ⟨w.heap.size, 0, none⟩) (bytesOf s).length (bytesOf s)) => rnumber_calls W (some ⟨w.heap.size, 0, none⟩) (grownCap w s.size 0 5) (bytesOf s) ((a : Int) + 2) 2 hC (by rw [HBL.out]; omega) HY.out (by omega) (by rw [HBL.out]; omega) (by omega)
          have hnn := nm_ok (c := ⟨((bytesOf s).take (a + 2 + 2)).drop (a + 2), 0, 0⟩) (n := 2) (fun x hx => HY.out x (List.mem_of_mem_take (List.mem_of_mem_drop hx))) (by omega)
          have hfull : (CS.mk (((bytesOf s).take (a + 2 + 2)).drop (a + 2)) 0 0).next 2 = ((bytesOf s).take (a + 2 + 2)).drop (a + 2) := by
            have hl := mid_len (l := bytesOf s) (a := a + 2) (n := 2) (by rw [HBL.out]; omega)
            unfold CS.next
            simp only [hl]
            rw [if_neg (by simp), if_neg (by omega), Nat.zero_add, List.drop_zero, List.take_of_length_le (by rw [hl]; exact Nat.le_refl _)]
          rw [hfull] at hnn
          rw [show ((a : Int) + 2).toNat = a + 2 by omega] at hn2
          rw [Int.toNat_natCast] at hn1
          obtain ⟨m, hm⟩ : ∃ m : Nat, nm (((bytesOf s).take (a + 2 + 2)).drop (a + 2)) = (m : Int) := ⟨_, (Int.toNat_of_nonneg hnn.1).symm⟩
          obtain ⟨t, ht⟩ : ∃ t, nm (((bytesOf s).take (a + 2)).drop a) = t := ⟨_, rfl⟩
          rw [hm] at hn2 hnn
          rw [ht] at hn1
          have hm2 := hnn.2
          have HM := Aside0.mk hm
          have HTT := Aside0.mk ht
          rw [HBL.out] at hn1 hn2 hCk
          have HN1 := Aside0.mk hn1
          have HN2 := Aside0.mk hn2
          have HCC := Aside0.mk hCk
          clear hn1 hn2 hCk hnn hfull hm ht
          have q3 : (0 : Int) ≤ (s.size : Int) - (a : Int) - 4 := by omega
          have q4 : (0 : Int) ≤ (a : Int) + 2 := by omega
          by_cases h5 : (s.size : Int) - (a : Int) - 4 < m
          · have h5b : decide ((s.size : Int) - (a : Int) - 4 < m) = true := decide_eq_true h5
            have HF := Aside0.mk (HEk.out.trans (rsplitGo_short _ k a acc m hal (by rw [HBL.out]; exact h4) HM.out (by rw [HBL.out]; exact h5)))
            go_wp2_with fail
            refine (HN1.out wr HCC.out).mono ?_
            rintro e w2 ⟨rfl, nq, rfl⟩
            go_wp2_with fail
            refine (HN2.out _ (show Kd.C (Kd.int .u8) (wr.drewN nq) (some ⟨w.heap.size, 0, none⟩) s.size (bytesOf s) from HCC.out)).mono ?_
            rintro e w3 ⟨rfl, nr, rfl⟩
            go_wp2_with fail
            go_ret2
            exact ⟨_, by rw [HF.out]; rfl, by rw [HF.out]; exact own_nil _ _ _ _, ⟨HGk.out.os, HGk.out.tape, HGk.out.output, HGk.out.size, HGk.out.block⟩⟩
          · have h5b : decide ((s.size : Int) - (a : Int) - 4 < m) = false := decide_eq_false h5
            have q5 : (a : Int) + 4 + m ≤ (s.size : Int) := by omega
            have q6 : (a : Int) + 4 ≤ (a : Int) + 4 + m := by omega
            have q7 : (0 : Int) ≤ (a : Int) + 4 := by omega
            go_wp2_with fail
            refine (HN1.out wr HCC.out).mono ?_
            rintro e w2 ⟨rfl, nq, rfl⟩
            go_wp2_with fail
            refine (HN2.out _ (show Kd.C (Kd.int .u8) (wr.drewN nq) (some ⟨w.heap.size, 0, none⟩) s.size (bytesOf s) from HCC.out)).mono ?_
            rintro e w3 ⟨rfl, nr, rfl⟩
            have hw5 := HDk.out.size
            have hsz : acc.length ≤ 65535 := by omega
            obtain ⟨d, hd⟩ : ∃ d, s.extract (a + 4) (a + 4 + m) = d := ⟨_, rfl⟩
            have HST := Aside0.mk (HEk.out.trans (rsplitGo_step _ k a acc m hal (by rw [HBL.out]; omega) HM.out (by rw [HBL.out]; omega)))
            have HDD := Aside0.mk ((str_bytes s (a + 4) (a + 4 + m)).trans hd)
            have HOd : Aside0 ((wr.drewN (nq + nr)).ownsRow W0.heap.size 49 2 (.slice A5 acc.length c5) acc.length (acc.flatMap encX)) := ⟨HOk.out⟩
            have hsize : (wr.drewN (nq + nr)).heap.size = wr.heap.size := rfl
            have HSZ := Aside0.mk hsize
            clear hsize
            go_wp2_with (at_builtin; rw [hd]; refine wpList_append_lies _ (by rfl) _ _ _ (by rfl) W0.heap.size 49 j0 _ 2 24 Try.underlying42 hj0 hy0 hy1 hy2 rfl (by omega) (.slice A5 acc.length c5) acc.length (acc.flatMap encX) ?b1 (HOd.out.alloc _) ⟨wr.heap.size, 0, none⟩ 1 1 [.int .i64 t, .string d] ?b2 ?b3 ?b4 ?b5 (by omega) ?b7 ?b8 ?b9 (wr.heap.size + 1) ?b10 ?b11; (case b1 => rfl); (case b2 => rfl); (case b3 => rfl); (case b4 => exact World.news_of_block (cs := #[.int .i64 t, .string d]) (t := 49) (fr := (0, 0)) (heap_alloc_new (wr.drewN (nq + nr)) _)); (case b5 => simp [Value.oneCell']); (case b7 => simp only [maxLen]; omega); (case b8 => omega); (case b9 => simp; omega); (case b10 => simp); intro gg cap w6 hown1 hgrow hat6 hlt6)
            have hDd : Below W0.heap.size W0 (wr.drewN (nq + nr)) := ⟨HDk.out.os, HDk.out.tape, HDk.out.output, HDk.out.size, HDk.out.block⟩
            have HD6 := Aside0.mk (below_app hDd HOd.out hgrow)
            go_roundg (s.size - a)
            case measure => omega
            case rel => exact ⟨a + 4 + m, acc ++ [(t, d)], k, some ⟨gg, 0, none⟩, cap, by simp, by go_num, by simp; omega, by omega, by omega, by omega, HD6, ⟨by rw [flatX_snoc, List.length_append]; exact hown1⟩, ⟨by rw [HST.out, HTT.out, HDD.out]⟩⟩
      · have hltb : decide ((a : Int) < (s.size : Int)) = false := decide_eq_false (by omega)
        have HF := Aside0.mk (HEk.out.trans (rsplitGo_end _ k a acc (by rw [HBL.out]; exact hlt)))
        go_wp2_with fail
        go_ret2
        exact ⟨_, by rw [HF.out]; rfl, by rw [HF.out]; exact own_weaken HOk.out HB0.out.size, HGk.out⟩
end Go.Proofs.Ytkmnhlhpmfkloaa.Fld
