/- Numbers that are read, texts that are put: what the document's functions of layer 12 compute. -/
import Derived.Test.YtkmnhlhpmfkloaaPEA
namespace Go.Proofs.Ytkmnhlhpmfkloaa.PE
open Go.RowKit Go.Proofs.Ytkmnhlhpmfkloaa Go.Proofs.YtkmnhlhpmfkloaaW.PrintWords Go.Proofs.YtkmnhlhpmfkloaaW.PrintLast Go.Proofs.YtkmnhlhpmfkloaaW.PrintMore Go.Proofs.Ytkmnhlhpmfkloaa.Pur Go.Proofs.Ytkmnhlhpmfkloaa.Fld
set_option linter.unusedVariables false
theorem text_ev (l : List Int) (s : ByteArray) (hl : l.length + s.size ≤ 140737488355328) : Ev (fun k => valiseref12_text.f k l s) (l ++ bytesOf s) := by
  have key : ∀ (d i : Nat) (acc : List Int), i + d = s.size → acc = l ++ (bytesOf s).take i → Ev (fun k => valiseref12_text.l0 k acc s (i : Int)) (l ++ bytesOf s) := by
    intro d
    induction d with
    | zero =>
      intro i acc hd ha
      refine Ev.step (fun k => valiseref12_text.l0.eq_2 ..) (neg (by omega) (done ?_))
      rw [ha, List.take_of_length_le (by rw [Fld.bytesOf_length]; omega)]
    | succ d ih =>
      intro i acc hd ha
      have h2 : i < (bytesOf s).length := by rw [Fld.bytesOf_length]; omega
      refine Ev.step (fun k => valiseref12_text.l0.eq_2 ..) (pos (by omega) (pos (by omega) (pos (by rw [ha, List.length_append, List.length_take]; omega) ?_)))
      rw [w64 (x := (i : Int) + 1) (by omega) (by omega)]
      refine ih (i + 1) _ (by omega) ?_
      rw [ha, List.append_assoc, take_rd _ _ h2, rd_bytesOf]
  exact key s.size 0 l (by omega) (by simp)
theorem is16_r (v : Int) : valiseref12_is16.f v = some (decide (0 ≤ v ∧ v ≤ 65535)) := by
  unfold valiseref12_is16.f
  by_cases h : v ≥ 0
  · rw [if_pos h]; congr 1; simp; omega
  · rw [if_neg h]; congr 1; symm; rw [decide_eq_false_iff_not]; omega
/-- The number of n bytes at a place. -/
def nat (l : List Int) (a n : Nat) : Int := nm ((l.take (a + n)).drop a)
theorem pow_le4 {n : Nat} (h : n ≤ 4) : (256 : Int) ^ n ≤ 4294967296 := by
  match n, h with
  | 0, _ => decide
  | 1, _ => decide
  | 2, _ => decide
  | 3, _ => decide
  | 4, _ => decide
theorem nat_range {l : List Int} (hy : By l) (a n : Nat) (hn : n ≤ 4) : 0 ≤ nat l a n ∧ nat l a n < 4294967296 := by
  have h1 := nm_range ((l.take (a + n)).drop a) (fun x hx => hy x (List.mem_of_mem_take (List.mem_of_mem_drop hx)))
  have h2 : ((l.take (a + n)).drop a).length ≤ 4 := by rw [List.length_drop, List.length_take]; omega
  have h3 := pow_le4 h2
  unfold nat
  omega
theorem nat_range2 {l : List Int} (hy : By l) (a : Nat) : 0 ≤ nat l a 2 ∧ nat l a 2 < 65536 := by
  have h1 := nm_range ((l.take (a + 2)).drop a) (fun x hx => hy x (List.mem_of_mem_take (List.mem_of_mem_drop hx)))
  have h2 : ((l.take (a + 2)).drop a).length ≤ 2 := by rw [List.length_drop, List.length_take]; omega
  have h3 : (256 : Int) ^ ((l.take (a + 2)).drop a).length ≤ 65536 := by
    generalize ((l.take (a + 2)).drop a).length = q at h2
    match q, h2 with
    | 0, _ => decide
    | 1, _ => decide
    | 2, _ => decide
  unfold nat
  omega
theorem number_ev (l : List Int) (a n : Nat) (hy : By l) (hl : l.length ≤ 140737488355328) (hn : n ≤ 4) (h : a + n ≤ l.length) : Ev (fun k => valiseref12_number.f k l (a : Int) n) (nat l a n) := by
  unfold valiseref12_number.f
  have key : ∀ (d : Nat) (v : Int), d ≤ n → v = nm ((l.take (a + n)).drop (a + d)) → Ev (fun k => valiseref12_number.l0 k l (a : Int) v ((d : Int) - 1)) (nat l a n) := by
    intro d
    induction d with
    | zero =>
      intro v hd hv
      exact Ev.step (fun k => valiseref12_number.l0.eq_2 ..) (neg (by omega) (done hv))
    | succ d ih =>
      intro v hd hv
      have h1 := nm_range ((l.take (a + n)).drop (a + (d + 1))) (fun x hx => hy x (List.mem_of_mem_take (List.mem_of_mem_drop hx)))
      have h2 : ((l.take (a + n)).drop (a + (d + 1))).length ≤ 4 := by rw [List.length_drop, List.length_take]; omega
      have h3 := pow_le4 h2
      have e0 : wrap64 ((a : Int) + (((d + 1 : Nat) : Int) - 1)) = ((a + d : Nat) : Int) := by rw [w64 (by omega) (by omega)]; omega
      have hb := hy _ (List.getElem_mem (show a + d < l.length by omega))
      have e1 : rd l ((a + d : Nat) : Int) = l[a + d] := rd_nat _ _ (by omega)
      refine Ev.step (fun k => valiseref12_number.l0.eq_2 ..) (pos (by omega) ?_)
      rw [e0, e1]
      refine pos (by omega) (pos (by omega) ?_)
      rw [w64 (x := l[a + d]) (by omega) (by omega), w64 (x := 256 * v) (by omega) (by omega), w64 (by omega) (by omega), w64 (by omega) (by omega), show (((d + 1 : Nat) : Int) - 1) - 1 = (d : Int) - 1 by omega]
      refine ih _ (by omega) ?_
      have hlt : a + d < (l.take (a + n)).length := by rw [List.length_take]; omega
      rw [List.drop_eq_getElem_cons hlt, List.getElem_take, nm, hv, Nat.add_assoc]
      omega
  rw [w64 (by omega) (by omega)]
  exact key n 0 (Nat.le_refl _) (by rw [List.drop_eq_nil_of_le (by rw [List.length_take]; omega)]; rfl)
theorem number_at (l : List Int) (a b n : Nat) (hy : By l) (hl : l.length ≤ 140737488355328) (hn : n ≤ 4) (h : a + b + n ≤ l.length) : Ev (fun k => valiseref12_number.f k l (wrap64 ((a : Int) + b)) n) (nat l (a + b) n) := by
  rw [w64 (by omega) (by omega), show (a : Int) + b = ((a + b : Nat) : Int) by omega]
  exact number_ev l (a + b) n hy hl hn h
theorem begins_ev (l : List Int) (a : Int) (n : Nat) (sg : Int) (hy : By l) (hl : l.length ≤ 140737488355328) (hn : 4 ≤ n) (hn2 : n ≤ 1000) (h1 : -9223372036854775808 ≤ a) (h2 : a ≤ 9223372036854775807) : Ev (fun k => valiseref12_begins.f k l a n sg) (fieldsE l a n sg) := by
  unfold valiseref12_begins.f
  by_cases c1 : a < 0
  · refine pos c1 (Ev.step (fun k => valiseref12_begins.j0.eq_2 ..) (pos rfl (done ?_)))
    unfold fieldsE; rw [if_pos (.inl c1)]
  · refine neg c1 (Ev.step (fun k => valiseref12_begins.j0.eq_2 ..) ?_)
    by_cases c2 : a > (l.length : Int)
    · refine pos (decide_eq_true c2) (done ?_)
      unfold fieldsE; rw [if_pos (.inr c2)]
    · refine neg (by simpa using c2) ?_
      rw [w64 (by omega) (by omega)]
      by_cases c3 : (l.length : Int) - a < n
      · refine pos c3 (done ?_)
        unfold fieldsE; rw [if_neg (by omega), if_pos c3]
      · refine neg c3 ?_
        obtain ⟨b, rfl⟩ : ∃ b : Nat, a = (b : Int) := ⟨a.toNat, by omega⟩
        refine Ev.bind (number_ev l b 4 hy hl (by omega) (by omega)) ?_
        by_cases c4 : nat l b 4 = sg
        · refine pos c4 (done ?_)
          unfold fieldsE; rw [if_neg (by omega), if_neg c3, if_neg]
          rw [Int.toNat_natCast]; exact fun h => h c4
        · refine neg c4 (done ?_)
          unfold fieldsE; rw [if_neg (by omega), if_neg c3, if_pos]
          rw [Int.toNat_natCast]; exact c4
theorem piece_f {l : List Int} {a n : Nat} (hl : l.length ≤ 140737488355328) (h : a + n ≤ l.length) : valiseref12_piece.f l (a : Int) (n : Int) = some (strOfNums ((l.take (a + n)).drop a)) := by
  unfold valiseref12_piece.f
  rw [if_pos (by omega), Int.toNat_natCast, Int.toNat_natCast]
/-- A cursor over the n bytes from a on. -/
theorem cur_at {l : List Int} {a N : Nat} (hN : a + N ≤ l.length) {k n : Nat} (h : k + n ≤ N) :
    nm ((CS.mk ((l.take (a + N)).drop a) k 0).next n) = nat l (a + k) n ∧ (CS.mk ((l.take (a + N)).drop a) k 0).adv n = ⟨(l.take (a + N)).drop a, k + n, 0⟩ := by
  have hlen : ((l.take (a + N)).drop a).length = N := by rw [List.length_drop, List.length_take]; omega
  obtain ⟨h1, h2⟩ := next_ok (l := (l.take (a + N)).drop a) (a := k) (n := n) (by omega)
  refine ⟨?_, h2⟩
  rw [h1]
  unfold nat
  rw [List.take_drop, List.take_take, List.drop_drop, Nat.min_eq_left (by omega), show a + (k + n) = a + k + n by omega]
theorem textsF_one {l : List Int} {a n : Nat} (h : a + n ≤ l.length) : textsF l a [(n : Int)] = some ([strOfNums ((l.take (a + n)).drop a)], a + n) := by
  unfold textsF
  rw [if_neg (by omega), Int.toNat_natCast]
  rfl
theorem textsF_no {l : List Int} {a n : Nat} {ns : List Int} (h : l.length < a + n) : textsF l a ((n : Int) :: ns) = none := by
  unfold textsF
  rw [if_pos (by omega)]
theorem textsF_cons {l : List Int} {a n : Nat} {ns : List Int} {ts : List ByteArray} {b : Nat} (h : a + n ≤ l.length) (ht : textsF l (a + n) ns = some (ts, b)) : textsF l a ((n : Int) :: ns) = some (strOfNums ((l.take (a + n)).drop a) :: ts, b) := by
  unfold textsF
  rw [if_neg (by omega), Int.toNat_natCast, ht]
theorem textsF_cons_no {l : List Int} {a n : Nat} {ns : List Int} (ht : textsF l (a + n) ns = none) : textsF l a ((n : Int) :: ns) = none := by
  unfold textsF
  by_cases h : (l.length : Int) - a < n
  · rw [if_pos h]
  · rw [if_neg h, Int.toNat_natCast, ht]
end Go.Proofs.Ytkmnhlhpmfkloaa.PE
