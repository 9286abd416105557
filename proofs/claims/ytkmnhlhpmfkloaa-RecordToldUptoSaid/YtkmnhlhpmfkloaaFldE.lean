/- What record's getters begin with (fields) and end with (texts): walked by hand. -/
import Derived.Test.YtkmnhlhpmfkloaaFldD
namespace Go.Proofs.Ytkmnhlhpmfkloaa.Fld
open Go.RowKit Go.Proofs.YtkmnhlhpmfkloaaW.PrintWords Go.Proofs.YtkmnhlhpmfkloaaW.PrintLast Go.Proofs.YtkmnhlhpmfkloaaW.PrintMore Go.Proofs.Ytkmnhlhpmfkloaa.Mem
set_option linter.unusedVariables false
set_option linter.unusedSimpArgs false

theorem C_news {w : World} {A : Option Addr} {l : List Int} (h : Kd.C (Kd.int .u8) w A l.length l) (hp : 0 < l.length) : ∃ ad, A = some ad ∧ ∀ j u, (l.map (Value.int .u8))[j]? = some u → w.cell? (ad.add j) = some u := by
  obtain ⟨ad, e, hc⟩ := (Kd.reads_of_C (enc := Value.int .u8) (d := (0 : Int)) (h1 := fun _ => rfl) h).2.2 hp
  refine ⟨ad, e, fun j u hu => ?_⟩
  rw [List.getElem?_map] at hu
  obtain ⟨x, hx, rfl⟩ := Option.map_eq_some_iff.1 hu
  have hj := (List.getElem?_eq_some_iff.1 hx).1
  rw [hc j hj, List.getD_eq_getElem?_getD, hx]
  rfl
theorem cur_made {w w1 : World} {l : List Int} {A : Option Addr} {cp : Nat} (hown : w1.ownsRow w.heap.size 5 1 (.slice A l.length cp) l.length (l.map (Value.int .u8))) (hb : Below w.heap.size w w1) (hl : l.length ≤ 140737488355328) (hy : ∀ x ∈ l, 0 ≤ x ∧ x < 256) :
    Cur (w1.alloc (.cells #[.slice A l.length cp, .int .i64 0, .int .i64 0] 127)) (w1.heap.size + 1) w1.heap.size ⟨l, 0, 0⟩ ∧ Below w.heap.size w (w1.alloc (.cells #[.slice A l.length cp, .int .i64 0, .int .i64 0] 127)) := by
  have hr : Kd.R (Kd.int .u8) 5 w1 0 (fun k => k < w1.heap.size + 1) (.slice A l.length cp) l :=
    Kd.R_of_own (own_weaken hown (Nat.zero_le _)) (fun k hk => Nat.lt_succ_of_lt (own_lt hown k hk))
  exact ⟨⟨A, cp, heap_alloc_new _ _, Kd.R_below hr (below_alloc (Below.refl _ _) _), Nat.lt_succ_self _, Nat.zero_le _, hl, hy⟩, below_alloc hb _⟩

set_option maxHeartbeats 4000000 in
set_option maxRecDepth 100000 in
theorem cnew_calls (w : World) (A : Option Addr) (cp : Nat) (l : List Int) (hC : Kd.C (Kd.int .u8) w A l.length l) (hcp : l.length ≤ cp) (hl : l.length ≤ 140737488355328) (hy : ∀ x ∈ l, 0 ≤ x ∧ x < 256) :
    Calls Try.prog 55 #[.slice A l.length cp] w fun e w' => ∃ g B, e = .returned (.pointer (some ⟨g, 0, none⟩)) ∧ w.heap.size ≤ g ∧ B ≤ w'.heap.size ∧ Cur w' B g ⟨l, 0, 0⟩ ∧ Below w.heap.size w w' := by
  obtain ⟨i0, hi0, hz0, hz1, hz2⟩ := info_parts Try.infoB
  by_cases h0 : l.length = 0
  · have hnil : l = [] := List.eq_nil_of_length_eq_zero h0
    subst hnil
    have H := Aside0.mk (cur_made (w := w) (w1 := w) (l := []) (A := none) (cp := 0) (own_nil _ _ _ _) (Below.refl _ _) (by simp) (by simp))
    clear hC hcp hl hy h0
    go_enter Try.func55, Try.ntmps55
    go_wp2_with (at_builtin; refine wpList_append_none_empty (by rfl) _ _ _ (by rfl) 5 i0 Try.underlying25 hi0 A cp ?a1 ?a2 ?a3; (case a1 => rfl); (case a2 => rfl))
    go_ret
    exact ⟨w.heap.size, w.heap.size + 1, rfl, Nat.le_refl _, by simp, H.out.1, H.out.2⟩
  · obtain ⟨ad, hA, hn⟩ := C_news hC (by omega)
    subst hA
    have HN := Aside0.mk hn
    have HY := Aside0.mk hy
    have hpos : 0 < l.length := by omega
    clear hn hC h0 hy
    go_enter Try.func55, Try.ntmps55
    go_wp2_with (at_builtin; refine wpList_append_lies _ (by rfl) _ _ _ (by rfl) w.heap.size 5 i0 _ 1 1 Try.underlying25 hi0 hz0 hz1 hz2 rfl (by omega) (.slice none 0 0) 0 [] ?b1 (own_nil _ _ _ _) ad l.length cp (l.map (Value.int .u8)) ?b2 ?b3 HN.out ?b5 hpos ?b7 ?b8 ?b9 w.heap.size ?b10 ?b11; (case b1 => rfl); (case b2 => rfl); (case b3 => simp); (case b5 => simp [Value.oneCell']); (case b7 => simp only [maxLen]; omega); (case b8 => omega); (case b9 => omega); (case b10 => rfl); intro gg cap w1 hown1 hgrow hat hlt)
    go_ret
    simp only [Nat.zero_add, List.nil_append] at hown1 ⊢
    have H := cur_made hown1 ⟨hgrow.os, hgrow.tape, hgrow.output, hgrow.size, fun k hk => hgrow.block k hk (by simp [Value.ownBlock])⟩ hl HY.out
    exact ⟨w1.heap.size, w1.heap.size + 1, rfl, hgrow.size, by simp, H.1, H.2⟩

/-- The error with which a record does not begin at a place; its fields. -/
def fieldsE (l : List Int) (at_ : Int) (n : Nat) (sign : Int) : Int :=
  if at_ < 0 ∨ (l.length : Int) < at_ then 1 else if (l.length : Int) - at_ < n then 122 else if nm ((l.take (at_.toNat + 4)).drop at_.toNat) ≠ sign then 123 else 0
def fieldsC (l : List Int) (at_ : Int) (n : Nat) : CS := ⟨(l.take (at_.toNat + n)).drop at_.toNat, 4, 0⟩
def FieldsPost (w : World) (E : Int) (c : CS) (e : Ending) (w' : World) : Prop :=
  (E ≠ 0 → e = .returned (.tuple #[.pointer none, .int .i64 E]) ∧ Below w.heap.size w w') ∧
  (E = 0 → ∃ g B, e = .returned (.tuple #[.pointer (some ⟨g, 0, none⟩), .int .i64 0]) ∧ w.heap.size ≤ g ∧ B ≤ w'.heap.size ∧ Cur w' B g c ∧ Below w.heap.size w w')
theorem FieldsPost.bad {w w' : World} {E : Int} {c : CS} {e : Ending} (hE : E ≠ 0) (h : e = .returned (.tuple #[.pointer none, .int .i64 E]) ∧ Below w.heap.size w w') : FieldsPost w E c e w' := ⟨fun _ => h, fun h0 => absurd h0 hE⟩
theorem FieldsPost.ok {w w' : World} {c : CS} {e : Ending} (h : ∃ g B, e = .returned (.tuple #[.pointer (some ⟨g, 0, none⟩), .int .i64 0]) ∧ w.heap.size ≤ g ∧ B ≤ w'.heap.size ∧ Cur w' B g c ∧ Below w.heap.size w w') : FieldsPost w 0 c e w' := ⟨fun h0 => absurd rfl h0, fun _ => h⟩
theorem mid_len {l : List Int} {a n : Nat} (h : a + n ≤ l.length) : ((l.take (a + n)).drop a).length = n := by rw [List.length_drop, List.length_take]; omega
theorem next_first {l : List Int} {a n : Nat} (h : a + n ≤ l.length) (hn : 4 ≤ n) : (CS.mk ((l.take (a + n)).drop a) 0 0).next 4 = (l.take (a + 4)).drop a ∧ (CS.mk ((l.take (a + n)).drop a) 0 0).adv 4 = ⟨(l.take (a + n)).drop a, 4, 0⟩ := by
  have hl := mid_len h
  unfold CS.next CS.adv
  simp only [hl]
  rw [if_neg (by simp), if_neg (by omega), if_neg (by simp), if_neg (by omega)]
  refine ⟨?_, rfl⟩
  rw [Nat.zero_add, List.drop_zero, List.take_drop, List.take_take, Nat.min_eq_left (by omega)]

set_option maxHeartbeats 4000000 in
set_option maxRecDepth 100000 in
theorem fields_calls (w : World) (A : Option Addr) (cp : Nat) (l : List Int) (at_ sign : Int) (n : Nat) (hC : Kd.C (Kd.int .u8) w A l.length l) (hcp : l.length ≤ cp) (hl : l.length ≤ 140737488355328) (hy : ∀ x ∈ l, 0 ≤ x ∧ x < 256) (hn : 4 ≤ n) (hn2 : n ≤ 100) :
    Calls Try.prog 65 #[.slice A l.length cp, .int .i64 at_, .int .i64 n, .int .i64 sign] w (FieldsPost w (fieldsE l at_ n sign) (fieldsC l at_ n)) := by
  by_cases h1 : at_ < 0
  · have hE : fieldsE l at_ n sign = 1 := if_pos (.inl h1)
    rw [hE]
    have h1b : decide (at_ < 0) = true := decide_eq_true h1
    clear hC hE
    go_enter Try.func65, Try.ntmps65
    go_wp2
    go_ret2
    exact .bad (by decide) ⟨rfl, Below.refl _ _⟩
  have h1b : decide (at_ < 0) = false := decide_eq_false h1
  by_cases h2 : (l.length : Int) < at_
  · have hE : fieldsE l at_ n sign = 1 := if_pos (.inr h2)
    rw [hE]
    have h2b : decide ((l.length : Int) < at_) = true := decide_eq_true h2
    clear hC hE
    go_enter Try.func65, Try.ntmps65
    go_wp2
    go_ret2
    exact .bad (by decide) ⟨rfl, Below.refl _ _⟩
  have h2b : decide ((l.length : Int) < at_) = false := decide_eq_false h2
  have q0 : 0 ≤ at_ := by omega
  have q1 : (0 : Int) ≤ (l.length : Int) - at_ := by omega
  have q2 : (l.length : Int) - at_ ≤ 140737488355328 := by omega
  by_cases h3 : (l.length : Int) - at_ < n
  · have hE : fieldsE l at_ n sign = 122 := by unfold fieldsE; rw [if_neg (by omega), if_pos h3]
    rw [hE]
    have h3b : decide ((l.length : Int) - at_ < n) = true := decide_eq_true h3
    clear hC hE
    go_enter Try.func65, Try.ntmps65
    go_wp2
    go_ret2
    exact .bad (by decide) ⟨rfl, Below.refl _ _⟩
  have h3b : decide ((l.length : Int) - at_ < n) = false := decide_eq_false h3
  obtain ⟨a, rfl⟩ := Int.eq_ofNat_of_zero_le q0
  have hle : a + n ≤ l.length := by omega
  obtain ⟨i0, hi0, hz0, hz1, hz2⟩ := info_parts Try.infoB
  obtain ⟨A1, hA1⟩ : ∃ A1, A1 = (if cp = a then A else A.map (·.add (a * (Kd.int .u8).sz))) := ⟨_, rfl⟩
  have hCm := Kd.C_mid (k := Kd.int .u8) (c := cp) (lo := a) (hi := a + n) hC (by omega) (by omega) hcp
  rw [← hA1] at hCm
  have hcut : ∀ W : World, (Instr.slice 25 (.slice A l.length cp) (some (.int .i64 (a : Int))) (some (.int .i64 ((a : Int) + (n : Int)))) none).run Try.prog W = .ok (.slice A1 n (cp - a)) W := by
    intro W
    have h := cut_mid (P := Try.prog) 25 5 .i64 .i64 Try.underlying25 hi0 1 hz1 A l.length cp (a : Int) ((a : Int) + (n : Int)) (by omega) (by omega) (by omega) hcp W
    rw [h, hA1]
    have t1 : ((a : Int) + (n : Int)).toNat - (a : Int).toNat = n := by omega
    have t2 : (a : Int).toNat = a := by omega
    rw [t1, t2]
    rfl
  have b1 : (0 : Int) ≤ (a : Int) + (n : Int) := by omega
  have b2 : (a : Int) + (n : Int) ≤ 140737488355328 := by omega
  have hfirst := next_first hle hn
  have hlen := mid_len hle
  have hN := cnew_calls w A1 (cp - a) ((l.take (a + n)).drop a) hCm (by rw [hlen]; omega) (by rw [hlen]; omega) (fun x hx => hy x (List.mem_of_mem_take (List.mem_of_mem_drop hx)))
  rw [hlen] at hN
  have HN := Aside0.mk hN
  have HFI := Aside0.mk hfirst
  by_cases h4 : nm ((l.take (a + 4)).drop a) = sign
  · have hE : fieldsE l a n sign = 0 := by unfold fieldsE; rw [if_neg (by omega), if_neg h3, if_neg (by rw [Int.toNat_natCast]; exact fun h => h h4)]
    have hF : fieldsC l a n = ⟨(l.take (a + n)).drop a, 4, 0⟩ := by unfold fieldsC; rw [Int.toNat_natCast]
    rw [hE, hF]
    have h4b : (nm ((l.take (a + 4)).drop a) != sign) = false := by simpa using h4
    clear hC hE hF hCm hN hfirst hlen hA1 h4 hi0 hz0 hz1 hz2
    go_enter Try.func65, Try.ntmps65
    go_wp2_with (first | (go_at_call 55; refine HN.out.mono ?_; rintro e w1 ⟨g, B, rfl, hg, hB, hcur, hbel⟩) | (go_at_call 66; refine (c32_calls _ B g _ hcur hB).mono ?_; rw [HFI.out.1, HFI.out.2]; rintro e w2 ⟨rfl, hcur2, hF2⟩))
    go_ret2
    exact .ok ⟨g, B, rfl, hg, Nat.le_trans hB hF2.size, hcur2, hbel.trans (hF2.to_below hbel.size (fun k hk => hk ▸ hg))⟩
  · have hE : fieldsE l a n sign = 123 := by unfold fieldsE; rw [if_neg (by omega), if_neg h3, if_pos (by rw [Int.toNat_natCast]; exact h4)]
    rw [hE]
    have h4b : (nm ((l.take (a + 4)).drop a) != sign) = true := by simpa using h4
    clear hC hE hCm hN hfirst hlen hA1 h4 hi0 hz0 hz1 hz2
    go_enter Try.func65, Try.ntmps65
    go_wp2_with (first | (go_at_call 55; refine HN.out.mono ?_; rintro e w1 ⟨g, B, rfl, hg, hB, hcur, hbel⟩) | (go_at_call 66; refine (c32_calls _ B g _ hcur hB).mono ?_; rw [HFI.out.1, HFI.out.2]; rintro e w2 ⟨rfl, hcur2, hF2⟩))
    go_ret2
    exact .bad (by decide) ⟨rfl, hbel.trans (hF2.to_below hbel.size (fun k hk => hk ▸ hg))⟩
theorem fieldsC_data {l : List Int} {a : Int} {n : Nat} (hy : ∀ x ∈ l, 0 ≤ x ∧ x < 256) : ∀ x ∈ (fieldsC l a n).data, 0 ≤ x ∧ x < 256 := fun x hx => hy x (List.mem_of_mem_take (List.mem_of_mem_drop hx))
theorem C_below' {α : Type} {d : Kd α} {w w1 : World} {A : Option Addr} {n : Nat} {l : List α} (h : Kd.C d w A n l) (hb : Below w.heap.size w w1) : Kd.C d w1 A n l := Kd.C_below h hb
end Go.Proofs.Ytkmnhlhpmfkloaa.Fld
