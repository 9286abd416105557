/- The buffer's Take, and what record makes of it: walked by hand. -/
import Derived.Test.YtkmnhlhpmfkloaaFldA
namespace Go.Proofs.Ytkmnhlhpmfkloaa.Fld
open Go.RowKit Go.Proofs.YtkmnhlhpmfkloaaW.PrintWords Go.Proofs.YtkmnhlhpmfkloaaW.PrintLast Go.Proofs.YtkmnhlhpmfkloaaW.PrintMore Go.Proofs.Ytkmnhlhpmfkloaa.Mem
set_option linter.unusedVariables false
set_option linter.unusedSimpArgs false

theorem run_append_none_empty {P : Program} (w : World) (t ty e : TypeId) (i : TypeInfo) (ht : P.underlying t = some (.slice e)) (hi : P.info? e = some i) (A : Option Addr) (c : Nat) :
    (Builtin.append_ #[t, t] ty #[.slice none 0 0, .slice A 0 c]).run P w = .ok (.slice none 0 0) w := by
  cases A <;> simp [Builtin.append_, run_underlying ht, sizeOf, typeInfo, hi, Builtin.lenOf, Builtin.firstCells, loadCells, loadCellsFrom]
theorem wpList_append_none_empty {P : Program} {w : World} {ops : Array Oper} {rest : List Oper} {o : Oper} {a : Act} {Q : Exit → Act → World → Prop} (hgd : o.guard = none) (sl x : Operand) (t : TypeId)
    (ho : o.op = .call { callee := .builtin .append, args := #[sl, x], argTypes := #[t, t] })
    (e : TypeId) (i : TypeInfo) (ht : P.underlying t = some (.slice e)) (hi : P.info? e = some i) (A : Option Addr) (c : Nat) (hs : a.eval sl = .slice none 0 0) (hx : a.eval x = .slice A 0 c)
    (h : wpList P ops Q rest (a.put o.dst (.slice none 0 0)) w) : wpList P ops Q (o :: rest) a w := by
  refine wpList_plain hgd fun K hK => ?_
  have hr := run_append_none_empty (P := P) w t o.type e i ht hi A c
  unfold Oper.wp execOp
  simp only [ho, resolve, invoke, builtin, Sem.run_bind, Sem.run_pure, Result.andThen_ok, List.map_toArray, List.map_cons, List.map_nil, hs, hx, hr]
  exact hK _ _ h

set_option maxHeartbeats 4000000 in
set_option maxRecDepth 100000 in
theorem take_calls (w : World) (S : Nat → Prop) (g : Nat) (b : BS) (h : Buf w S g b) (he : b.err = 0) : Calls Try.prog 77 #[.pointer (some ⟨g, 0, none⟩)] w fun e w' =>
    ∃ A c, e = .returned (.slice A b.l.length c) ∧ Kd.R (Kd.int .u8) 5 w' w.heap.size (fun _ => True) (.slice A b.l.length c) b.l ∧ Below w.heap.size w w' := by
  obtain ⟨v0, hg, hr, sg, sr, hl, hm⟩ := h
  have c2 : w.cell? ⟨g, 2, none⟩ = some (.int .i64 b.err) := blk_cell hg 2
  have c0 : w.cell? ⟨g, 0, none⟩ = some v0 := blk_cell hg 0
  have heb : (b.err != 0) = false := by simpa using he
  obtain ⟨i0, hi0, hz0, hz1, hz2⟩ := info_parts Try.infoB
  have hsz : b.l.length ≤ 1048576 := by omega
  clear hl hm he sg sr
  by_cases h0 : b.l.length = 0
  · obtain ⟨A, cp, rfl⟩ : ∃ A cp, v0 = .slice A 0 cp := by
      rcases hr.2 with ⟨rfl, h0'⟩ | ⟨b', cap, cur, rfl, _⟩
      · exact ⟨_, _, rfl⟩
      · exact ⟨_, _, by rw [h0]⟩
    have hnil : b.l = [] := List.eq_nil_of_length_eq_zero h0
    clear hg hr hsz h0
    go_enter Try.func77, Try.ntmps77
    go_wp2_with (at_builtin; refine wpList_append_none_empty (by rfl) _ _ _ (by rfl) 5 i0 Try.underlying25 hi0 A cp ?a1 ?a2 ?a3; (case a1 => rfl); (case a2 => rfl))
    go_ret
    exact ⟨none, 0, by rw [hnil]; rfl, by rw [hnil]; exact Kd.R_nil _ _ _ _ _, Below.refl _ _⟩
  · obtain ⟨gb, cp, rfl, hcells⟩ : ∃ gb cp, v0 = .slice (some ⟨gb, 0, none⟩) b.l.length cp ∧ ∀ j u, (b.l.map (Value.int .u8))[j]? = some u → w.cell? ((⟨gb, 0, none⟩ : Addr).add j) = some u := by
      rcases hr.2 with ⟨rfl, h0'⟩ | ⟨b', cap, cur, rfl, _⟩
      · exact absurd h0' h0
      · exact ⟨_, _, rfl, hr.cells rfl⟩
    have hpos : 0 < b.l.length := by omega
    clear hg hr h0
    have HC := Aside0.mk hcells
    clear hcells
    go_enter Try.func77, Try.ntmps77
    go_wp2_with (at_builtin; refine wpList_append_lies _ (by rfl) _ _ _ (by rfl) w.heap.size 5 i0 _ 1 1 Try.underlying25 hi0 hz0 hz1 hz2 rfl (by omega) (.slice none 0 0) 0 [] ?b1 (own_nil _ _ _ _) ⟨gb, 0, none⟩ b.l.length cp (b.l.map (Value.int .u8)) ?b2 ?b3 HC.out ?b5 hpos ?b7 ?b8 ?b9 w.heap.size ?b10 ?b11; (case b1 => rfl); (case b2 => rfl); (case b3 => simp); (case b5 => simp [Value.oneCell']); (case b7 => simp only [maxLen]; omega); (case b8 => omega); (case b9 => omega); (case b10 => rfl); intro gg cap w1 hown1 hgrow hat hlt)
    go_ret
    refine ⟨some ⟨gg, 0, none⟩, cap, by simp, ?_, ?_⟩
    · simp only [Nat.zero_add, List.nil_append] at hown1
      exact Kd.R_of_own hown1 (fun _ _ => trivial)
    · exact ⟨hgrow.os, hgrow.tape, hgrow.output, hgrow.size, fun k hk => hgrow.block k hk (by simp [Value.ownBlock])⟩

/-- What record answers of a buffer. -/
def BS.ans (b : BS) : List Int × Int := if b.err = 0 then (b.l, 0) else ([], 124)
set_option maxHeartbeats 4000000 in
theorem taken_calls (w : World) (S : Nat → Prop) (g : Nat) (b : BS) (h : Buf w S g b) : Calls Try.prog 50 #[.pointer (some ⟨g, 0, none⟩)] w fun e w' =>
    ∃ v, e = .returned (.tuple #[v, .int .i64 b.ans.2]) ∧ Kd.R (Kd.int .u8) 5 w' w.heap.size (fun _ => True) v b.ans.1 ∧ Below w.heap.size w w' := by
  by_cases he : b.err = 0
  · have heb : (b.err != 0) = false := by simpa using he
    have ha : b.ans = (b.l, 0) := if_pos he
    rw [ha]
    have H1 := Aside0.mk (err_calls w S g b h)
    have H2 := Aside0.mk (fun n => take_calls (w.drewN n) S g b h he)
    clear h he ha
    go_enter Try.func50, Try.ntmps50
    go_wp2_with (first | (go_at_call 76; refine H1.out.mono ?_; rintro e w1 ⟨rfl, n, rfl⟩) | (go_at_call 77; refine (H2.out n).mono ?_; rintro e w2 ⟨A, c, rfl, hR, hB⟩))
    go_ret2
    exact ⟨_, rfl, hR, ⟨hB.os, hB.tape, hB.output, hB.size, hB.block⟩⟩
  · have heb : (b.err != 0) = true := by simpa using he
    have ha : b.ans = ([], 124) := if_neg he
    rw [ha]
    have H1 := Aside0.mk (err_calls w S g b h)
    clear h he ha
    go_enter Try.func50, Try.ntmps50
    go_wp2_with (first | (go_at_call 76; refine H1.out.mono ?_; rintro e w1 ⟨rfl, n, rfl⟩))
    go_ret2
    exact ⟨_, rfl, Kd.R_nil _ _ _ _ _, ⟨rfl, rfl, rfl, Nat.le_refl _, fun _ _ => rfl⟩⟩
end Go.Proofs.Ytkmnhlhpmfkloaa.Fld
