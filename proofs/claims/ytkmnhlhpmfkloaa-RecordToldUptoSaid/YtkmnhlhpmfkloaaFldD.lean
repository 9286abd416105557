/- The cursor of fields: what it holds, and what each of its calls does, walked by hand. -/
import Derived.Test.YtkmnhlhpmfkloaaFldC
import Derived.Laws.BitsAllLaws
import Derived.Laws.BitsLemmas
namespace Go.Proofs.Ytkmnhlhpmfkloaa.Fld
open Go.RowKit Go.Proofs.YtkmnhlhpmfkloaaW.PrintWords Go.Proofs.YtkmnhlhpmfkloaaW.PrintLast Go.Proofs.YtkmnhlhpmfkloaaW.PrintMore Go.Proofs.Ytkmnhlhpmfkloaa.Mem
set_option linter.unusedVariables false
set_option linter.unusedSimpArgs false

/-- A cursor: its bytes, its place, its first error. -/
structure CS where
  data : List Int
  at_ : Nat
  err : Int
def CS.next (c : CS) (n : Nat) : List Int := if c.err ≠ 0 then [] else if c.data.length - c.at_ < n then [] else (c.data.take (c.at_ + n)).drop c.at_
def CS.adv (c : CS) (n : Nat) : CS := if c.err ≠ 0 then c else if c.data.length - c.at_ < n then { c with err := 20 } else { c with at_ := c.at_ + n }

def Cur (w : World) (B g : Nat) (c : CS) : Prop :=
  ∃ A cp, w.heap[g]? = some (.cells #[.slice A c.data.length cp, .int .i64 c.at_, .int .i64 c.err] 127 (0, 0)) ∧ Kd.R (Kd.int .u8) 5 w 0 (fun k => k < B) (.slice A c.data.length cp) c.data ∧
    g < B ∧ c.at_ ≤ c.data.length ∧ c.data.length ≤ 140737488355328 ∧ ∀ x ∈ c.data, 0 ≤ x ∧ x < 256
section
variable {w w1 : World} {S1 : Nat → Prop} {B g : Nat} {c : CS}
theorem Cur.frm (h : Cur w B g c) (hF : Frm S1 w w1) (hn : ∀ k, k < B → ¬ S1 k) : Cur w1 B g c := by
  obtain ⟨A, cp, hg, hr, hb, h1, h2⟩ := h
  exact ⟨A, cp, hF.blk hg (hn g hb), Kd.R_step hr (fun k hk hlt => hF.block k hlt (hn k hk)), hb, h1, h2⟩
theorem Cur.mono {B1 : Nat} (h : Cur w B g c) (hb : B ≤ B1) : Cur w B1 g c := by
  obtain ⟨A, cp, hg, hr, hb', h1, h2⟩ := h
  exact ⟨A, cp, hg, Kd.R_mono hr (fun k hk => Nat.lt_of_lt_of_le hk hb), by omega, h1, h2⟩
theorem row_set {A : Option Addr} {n cp : Nat} {xs : List Int} {cells : Array Value} {ok : Nat → Prop} (hg : w.heap[g]? = some (.cells cells 127 (0, 0))) (hr : Kd.R (Kd.int .u8) 5 w 0 ok (.slice A n cp) xs) (j : Nat) (u : Value) :
    Kd.R (Kd.int .u8) 5 (w.setCell ⟨g, j, none⟩ u) 0 ok (.slice A n cp) xs :=
  Kd.R_mono (Kd.R_far (p := ⟨g, j, none⟩) (Kd.R_types hr hg (by intro q hq; simp [Kd.int, Kd.scalar] at hq; omega)) (fun _ hk => hk.2) u) (fun _ hk => hk.1)
theorem Cur.set {u : Value} {j : Nat} {c' : CS} (h : Cur w B g c) (hj : ∀ A cp, (#[.slice A c.data.length cp, .int .i64 c.at_, .int .i64 c.err] : Array Value).setIfInBounds j u = #[.slice A c'.data.length cp, .int .i64 c'.at_, .int .i64 c'.err])
    (hd : c'.data = c.data) (ha : c'.at_ ≤ c.data.length) : Cur (w.setCell ⟨g, j, none⟩ u) B g c' := by
  obtain ⟨A, cp, hg, hr, hb', h1, h2⟩ := h
  refine ⟨A, cp, by rw [blk_set hg j u, hj], ?_, hb', by rw [hd]; exact ha, by rw [hd]; exact h2.1, by rw [hd]; exact h2.2⟩
  rw [hd]
  exact row_set hg hr j u
end

set_option maxHeartbeats 4000000 in
set_option maxRecDepth 100000 in
theorem next_calls (w : World) (B g : Nat) (c : CS) (n : Nat) (h : Cur w B g c) (hn : (n : Int) ≤ 4611686018427387904) : Calls Try.prog 80 #[.pointer (some ⟨g, 0, none⟩), .int .i64 n] w fun e w' =>
    ∃ A cp, e = .returned (.slice A (c.next n).length cp) ∧ (c.next n).length ≤ cp ∧ Kd.C (Kd.int .u8) w' A (c.next n).length (c.next n) ∧ Cur w' B g (c.adv n) ∧ Frm (fun k => k = g) w w' := by
  have HH := Aside0.mk h
  obtain ⟨A, cp, hg, hr, hgb, h1, h2⟩ := h
  have hby := h2.2
  replace h2 := h2.1
  have c2 : w.cell? ⟨g, 2, none⟩ = some (.int .i64 c.err) := blk_cell hg 2
  have c1 : w.cell? ⟨g, 1, none⟩ = some (.int .i64 c.at_) := blk_cell hg 1
  have c0 : w.cell? ⟨g, 0, none⟩ = some (.slice A c.data.length cp) := blk_cell hg 0
  have f2 : w.frozen? ⟨g, 2, none⟩ = false := blk_frozen hg 2
  have f1 : w.frozen? ⟨g, 1, none⟩ = false := blk_frozen hg 1
  have hneg : decide ((n : Int) < 0) = false := decide_eq_false (by omega)
  by_cases he : c.err = 0
  · have heb : (c.err != 0) = false := by simpa using he
    by_cases hroom : c.data.length - c.at_ < n
    · have hroomb : decide ((c.data.length : Int) - (c.at_ : Int) < n) = true := decide_eq_true (by omega)
      have e1 : c.next n = [] := by unfold CS.next; rw [if_neg (by omega), if_pos hroom]
      have e2 : c.adv n = { c with err := 20 } := by unfold CS.adv; rw [if_neg (by omega), if_pos hroom]
      rw [e1, e2]
      have HR := Aside0.mk (Cur.set (u := .int .i64 20) (j := 2) (c' := { c with err := 20 }) HH.out (fun _ _ => rfl) rfl h1)
      clear e1 e2 he hr hg hgb
      have b1 : (0 : Int) ≤ (c.data.length : Int) - (c.at_ : Int) := by omega
      have b2 : (c.data.length : Int) - (c.at_ : Int) ≤ 140737488355328 := by omega
      go_enter Try.func80, Try.ntmps80
      go_wp2
      go_quiet (fail)
      go_wp2
      go_ret
      exact ⟨none, 0, rfl, Nat.le_refl _, (Kd.R_reads (Kd.R_nil (Kd.int .u8) 5 _ 0 (fun _ => True))).elim fun A1 h1 => h1.elim fun c1 h1 => by
        have h3 := h1.1
        simp only [Value.slice.injEq] at h3
        rw [h3.1]
        exact h1.2.2, HR.out, ((Frm.refl (fun k => k = g) w).setCell (p := ⟨g, 2, none⟩) (.inl rfl) _).drewN nq⟩
    · have hroomb : decide ((c.data.length : Int) - (c.at_ : Int) < n) = false := decide_eq_false (by omega)
      have e1 : c.next n = (c.data.take (c.at_ + n)).drop c.at_ := by unfold CS.next; rw [if_neg (by omega), if_neg hroom]
      have e2 : c.adv n = { c with at_ := c.at_ + n } := by unfold CS.adv; rw [if_neg (by omega), if_neg hroom]
      have hlen : ((c.data.take (c.at_ + n)).drop c.at_).length = n := by rw [List.length_drop, List.length_take]; omega
      rw [e1, e2]
      obtain ⟨_, hcp, hC⟩ := Kd.R_reads' hr
      obtain ⟨i0, hi0, hz0, hz1, hz2⟩ := info_parts Try.infoB
      obtain ⟨A1, hA1⟩ : ∃ A1, A1 = (if cp = c.at_ then A else A.map (·.add (c.at_ * (Kd.int .u8).sz))) := ⟨_, rfl⟩
      have hCm := Kd.C_mid (k := Kd.int .u8) (c := cp) (lo := c.at_) (hi := c.at_ + n) (Kd.R_reads' (row_set hg hr 1 (.int .i64 ((c.at_ : Int) + (n : Int))))).2.2 (by omega) (by omega) hcp
      rw [← hA1] at hCm
      have hcut : ∀ W : World, (Instr.slice 25 (.slice A c.data.length cp) (some (.int .i64 (c.at_ : Int))) (some (.int .i64 ((c.at_ : Int) + (n : Int)))) none).run Try.prog W = .ok (.slice A1 n (cp - c.at_)) W := by
        intro W
        have h := cut_mid (P := Try.prog) 25 5 .i64 .i64 Try.underlying25 hi0 1 hz1 A c.data.length cp (c.at_ : Int) ((c.at_ : Int) + (n : Int)) (by omega) (by omega) (by omega) hcp W
        rw [h, hA1]
        have t1 : ((c.at_ : Int) + (n : Int)).toNat - (c.at_ : Int).toNat = n := by omega
        have t2 : (c.at_ : Int).toNat = c.at_ := by omega
        rw [t1, t2]
        rfl
      have HL := Aside0.mk hlen
      have HC := Aside0.mk hCm
      have HR := Aside0.mk (Cur.set (u := .int .i64 ((c.at_ : Int) + (n : Int))) (j := 1) (c' := { c with at_ := c.at_ + n }) HH.out (fun A cp => by simp) rfl (by simp only; omega))
      have b1 : (0 : Int) ≤ (c.at_ : Int) + (n : Int) := by omega
      have b2 : (c.at_ : Int) + (n : Int) ≤ 140737488355328 := by omega
      have b3 : (0 : Int) ≤ (c.data.length : Int) - (c.at_ : Int) := by omega
      have b4 : (c.data.length : Int) - (c.at_ : Int) ≤ 140737488355328 := by omega
      have hle : n ≤ cp - c.at_ := by omega
      clear e1 e2 he hr hg hgb hA1 hCm hC hlen hi0 hz0 hz1 hz2
      go_enter Try.func80, Try.ntmps80
      go_wp2
      go_quiet (fail)
      go_wp2
      go_quiet (fail)
      go_wp2
      go_ret
      exact ⟨A1, cp - c.at_, by rw [HL.out]; rfl, by rw [HL.out]; exact hle, HC.out, HR.out, ((Frm.refl (fun k => k = g) w).setCell (p := ⟨g, 1, none⟩) (.inl rfl) _).drewN _⟩
  · have heb : (c.err != 0) = true := by simpa using he
    have e1 : c.next n = [] := by unfold CS.next; rw [if_pos he]
    have e2 : c.adv n = c := by unfold CS.adv; rw [if_pos he]
    rw [e1, e2]
    clear e1 e2 hr hg
    go_enter Try.func80, Try.ntmps80
    go_wp2
    go_ret
    exact ⟨none, 0, rfl, Nat.le_refl _, (Kd.R_reads (Kd.R_nil (Kd.int .u8) 5 _ 0 (fun _ => True))).elim fun A1 h1 => h1.elim fun c1 h1 => by
        have h3 := h1.1
        simp only [Value.slice.injEq] at h3
        rw [h3.1]
        exact h1.2.2, HH.out, Frm.refl _ _⟩

/-- A number out of its bytes, the lowest first. -/
def nm : List Int → Int
  | [] => 0
  | b :: t => b + 256 * nm t
theorem nm_range : ∀ (l : List Int), (∀ x ∈ l, 0 ≤ x ∧ x < 256) → 0 ≤ nm l ∧ nm l < 256 ^ l.length
  | [], _ => ⟨Int.le_refl _, by simp [nm]⟩
  | b :: t, h => by
    have h1 := nm_range t (fun x hx => h x (List.mem_cons_of_mem _ hx))
    have h2 := h b List.mem_cons_self
    rw [nm, List.length_cons, Int.pow_succ]
    omega
theorem next_mem {c : CS} {n : Nat} {x : Int} (hx : x ∈ c.next n) : x ∈ c.data := by
  unfold CS.next at hx
  split at hx
  · simp at hx
  · split at hx
    · simp at hx
    · exact List.mem_of_mem_take (List.mem_of_mem_drop hx)
theorem next_len {c : CS} {n : Nat} : (c.next n).length ≤ n := by
  unfold CS.next
  split
  · simp
  · split
    · simp
    · rw [List.length_drop, List.length_take]; omega
theorem ofInt_i64' (a : Nat) (ha : a < 9223372036854775808) : (BitVec.ofInt 64 (a : Int)).toNat = a := by
  rw [BitVec.ofInt_natCast, BitVec.toNat_ofNat]; exact Nat.mod_eq_of_lt (by omega)
theorem i64_or_nat' (a b : Nat) (ha : a < 9223372036854775808) (hb : b < 9223372036854775808) : bits .or .i64 (a : Int) (b : Int) = ((a ||| b : Nat) : Int) := by
  have hx : a ||| b < 2 ^ 63 := Nat.or_lt_two_pow (by omega) (by omega)
  show IntKind.i64.wrap ((BitVec.ofInt 64 (a : Int) ||| BitVec.ofInt 64 (b : Int)).toNat : Int) = _
  rw [BitVec.toNat_or, ofInt_i64' a ha, ofInt_i64' b hb, IntKind.wrap_i64]
  omega
theorem or_low (v x : Int) (hv0 : 0 ≤ v) (hv1 : v < 16777216) (hx0 : 0 ≤ x) (hx1 : x < 256) : bits .or .i64 (v * 256) x = x + 256 * v := by
  obtain ⟨a, rfl⟩ := Int.eq_ofNat_of_zero_le hv0
  obtain ⟨b, rfl⟩ := Int.eq_ofNat_of_zero_le hx0
  have h := i64_or_nat' (2 ^ 8 * a) b (by omega) (by omega)
  rw [← Nat.two_pow_add_eq_or_of_lt (by omega : b < 2 ^ 8)] at h
  have e : ((a : Int) * 256) = ((2 ^ 8 * a : Nat) : Int) := by omega
  rw [e, h]
  omega

set_option maxHeartbeats 4000000 in
set_option maxRecDepth 100000 in
theorem cnumber_calls (w : World) (B g : Nat) (c : CS) (n : Nat) (h : Cur w B g c) (hn : n ≤ 4) (hB : B ≤ w.heap.size) : Calls Try.prog 79 #[.pointer (some ⟨g, 0, none⟩), .int .i64 n] w fun e w' =>
    e = .returned (.int .i64 (nm (c.next n))) ∧ Cur w' B g (c.adv n) ∧ Frm (fun k => k = g) w w' := by
  have H1 := Aside0.mk (next_calls w B g c n h (by omega))
  have hby : ∀ x ∈ c.next n, 0 ≤ x ∧ x < 256 := fun x hx => by obtain ⟨_, _, _, _, _, _, _, hb⟩ := h; exact hb x (next_mem hx)
  have hlen : (c.next n).length ≤ 4 := Nat.le_trans next_len hn
  have HL := Aside0.mk hlen
  have HY := Aside0.mk hby
  clear h hby hlen
  generalize c.next n = part at *
  have b0 : (0 : Int) ≤ (part.length : Int) := by omega
  have b1 : (part.length : Int) ≤ 4 := by have := HL.out; omega
  go_enter Try.func79, Try.ntmps79
  go_wp2_with (first | (go_at_call 80; refine H1.out.mono ?_; rintro e w1 ⟨A, cp, rfl, hcp, hC, hcur, hF⟩))
  have HC := Aside0.mk hC
  have HU := Aside0.mk hcur
  have HF := Aside0.mk hF
  clear hC hcur hF hcp H1
  go_loopg [6, 7] 6 (fun gk v6 v7 wr => ∃ (j : Nat), v6 = .int .i64 (nm (part.drop j)) ∧ v7 = .int .i64 ((j : Int) - 1) ∧ (j : Int) ≤ part.length ∧ j + 1 ≤ gk ∧ wr = w1)
  case atStart => exact ⟨part.length, by simp [nm], rfl, by omega, by omega, rfl⟩
  case round =>
    obtain ⟨j, rfl, rfl, hj, hjk, rfl⟩ := hrel
    by_cases h0 : j = 0
    · subst h0
      go_wp2
      go_ret
      exact ⟨rfl, HU.out, HF.out⟩
    · obtain ⟨j, rfl⟩ : ∃ q, j = q + 1 := ⟨j - 1, by omega⟩
      have ej : (((j + 1 : Nat) : Int) - 1) = (j : Int) := by omega
      rw [ej]
      clear ej
      obtain ⟨ad, hA, hcell⟩ := ReadsOf.at_ (Kd.reads_of_C (enc := Value.int .u8) (d := (0 : Int)) (h1 := fun _ => rfl) HC.out) (j : Int) (by omega) (by omega)
      have hx := HY.out (rdOf 0 part (j : Int)) (by rw [rdOf, Int.toNat_natCast, List.getD_eq_getElem?_getD, List.getElem?_eq_getElem (by omega)]; exact List.getElem_mem _)
      rw [Int.toNat_natCast] at hcell
      subst hA
      have hr0 : 0 ≤ nm (part.drop (j + 1)) ∧ nm (part.drop (j + 1)) < 16777216 := by
        have h1 := nm_range (part.drop (j + 1)) (fun x hx => HY.out x (List.mem_of_mem_drop hx))
        have h2 : (part.drop (j + 1)).length ≤ 3 := by rw [List.length_drop]; omega
        have h3 : (256 : Int) ^ (part.drop (j + 1)).length ≤ 256 ^ 3 := by
          generalize (part.drop (j + 1)).length = q at h2
          match q, h2 with
          | 0, _ => decide
          | 1, _ => decide
          | 2, _ => decide
          | 3, _ => decide
        omega
      have hstep : nm (part.drop j) = rdOf 0 part (j : Int) + 256 * nm (part.drop (j + 1)) := by
        rw [List.drop_eq_getElem_cons (by omega : j < part.length), nm, rdOf, Int.toNat_natCast, List.getD_eq_getElem?_getD, List.getElem?_eq_getElem (by omega)]
        rfl
      have HST := Aside0.mk hstep
      clear hstep
      generalize rdOf 0 part (j : Int) = x at *
      generalize nm (part.drop (j + 1)) = v at *
      obtain ⟨hx0, hx1⟩ := hx
      obtain ⟨hv0, hv1⟩ := hr0
      have hor := or_low v x hv0 hv1 hx0 hx1
      rw [← HST.out] at hor
      have HOR := Aside0.mk hor
      clear hor
      go_wp2
      go_roundg (j + 1)
      case measure => omega
      case rel => exact ⟨j, by rw [HOR.out], rfl, by omega, by omega, rfl⟩

theorem c16_calls (w : World) (B g : Nat) (c : CS) (h : Cur w B g c) (hB : B ≤ w.heap.size) : Calls Try.prog 57 #[.pointer (some ⟨g, 0, none⟩)] w fun e w' =>
    e = .returned (.int .i64 (nm (c.next 2))) ∧ Cur w' B g (c.adv 2) ∧ Frm (fun k => k = g) w w' := by
  have H := Aside0.mk (cnumber_calls w B g c 2 h (by omega) hB)
  clear h
  go_enter Try.func57, Try.ntmps57
  go_wp2_with (go_at_call 79; refine H.out.mono ?_; rintro e w1 ⟨rfl, hb⟩)
  go_ret
  exact ⟨rfl, hb⟩
theorem c32_calls (w : World) (B g : Nat) (c : CS) (h : Cur w B g c) (hB : B ≤ w.heap.size) : Calls Try.prog 66 #[.pointer (some ⟨g, 0, none⟩)] w fun e w' =>
    e = .returned (.int .i64 (nm (c.next 4))) ∧ Cur w' B g (c.adv 4) ∧ Frm (fun k => k = g) w w' := by
  have H := Aside0.mk (cnumber_calls w B g c 4 h (by omega) hB)
  clear h
  go_enter Try.func66, Try.ntmps66
  go_wp2_with (go_at_call 79; refine H.out.mono ?_; rintro e w1 ⟨rfl, hb⟩)
  go_ret
  exact ⟨rfl, hb⟩
theorem ctext_calls (w : World) (B g : Nat) (c : CS) (n : Nat) (h : Cur w B g c) (hn : (n : Int) ≤ 4611686018427387904) : Calls Try.prog 58 #[.pointer (some ⟨g, 0, none⟩), .int .i64 n] w fun e w' =>
    e = .returned (.string (strOfNums (c.next n))) ∧ Cur w' B g (c.adv n) ∧ Frm (fun k => k = g) w w' := by
  have H := Aside0.mk (next_calls w B g c n h hn)
  clear h
  go_enter Try.func58, Try.ntmps58
  go_wp2_with (go_at_call 80; refine H.out.mono ?_; rintro e w1 ⟨A, cp, rfl, hcp, hC, hcur, hF⟩; have hcv := Kd.C_string (c := cp) Try.underlying25 Try.underlying5 Try.underlying9 hC)
  go_ret
  exact ⟨rfl, hcur, hF⟩
theorem left_calls (w : World) (B g : Nat) (c : CS) (h : Cur w B g c) : Calls Try.prog 56 #[.pointer (some ⟨g, 0, none⟩)] w fun e w' =>
    e = .returned (.int .i64 ((c.data.length : Int) - (c.at_ : Int))) ∧ Drawn0 w w' := by
  obtain ⟨A, cp, hg, hr, hb, h1, h2, h3⟩ := h
  have c1 : w.cell? ⟨g, 1, none⟩ = some (.int .i64 c.at_) := blk_cell hg 1
  have c0 : w.cell? ⟨g, 0, none⟩ = some (.slice A c.data.length cp) := blk_cell hg 0
  have b3 : (0 : Int) ≤ (c.data.length : Int) - (c.at_ : Int) := by omega
  have b4 : (c.data.length : Int) - (c.at_ : Int) ≤ 140737488355328 := by omega
  clear hr hg hb
  go_enter Try.func56, Try.ntmps56
  go_wp2
  go_quiet (fail)
  go_wp2
  go_ret
  exact ⟨rfl, ⟨_, rfl⟩⟩
theorem cerr_calls (w : World) (B g : Nat) (c : CS) (h : Cur w B g c) : Calls Try.prog 59 #[.pointer (some ⟨g, 0, none⟩)] w fun e w' => e = .returned (.int .i64 c.err) ∧ Drawn0 w w' := by
  obtain ⟨A, cp, hg, hr, hb, h1, h2, h3⟩ := h
  have c2 : w.cell? ⟨g, 2, none⟩ = some (.int .i64 c.err) := blk_cell hg 2
  clear hr hg hb
  go_enter Try.func59, Try.ntmps59
  go_wp2
  go_ret
  exact ⟨rfl, Drawn0.refl _⟩
theorem adv_data (c : CS) (n : Nat) : (c.adv n).data = c.data := by
  unfold CS.adv
  split
  · rfl
  · split <;> rfl
theorem nm_ok {c : CS} {n : Nat} (hy : ∀ x ∈ c.data, 0 ≤ x ∧ x < 256) (hn : n ≤ 4) : 0 ≤ nm (c.next n) ∧ nm (c.next n) ≤ 4294967295 := by
  have h1 := nm_range (c.next n) (fun x hx => hy x (next_mem hx))
  have h2 : (c.next n).length ≤ 4 := Nat.le_trans next_len hn
  have h3 : (256 : Int) ^ (c.next n).length ≤ 256 ^ 4 := by
    generalize (c.next n).length = q at h2
    match q, h2 with
    | 0, _ => decide
    | 1, _ => decide
    | 2, _ => decide
    | 3, _ => decide
    | 4, _ => decide
  omega
end Go.Proofs.Ytkmnhlhpmfkloaa.Fld
