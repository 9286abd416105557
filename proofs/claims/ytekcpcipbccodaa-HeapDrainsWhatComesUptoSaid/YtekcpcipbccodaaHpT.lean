/- The program's heap and the document's, side by side: each call, and the law's step. -/
import Derived.Test.YtekcpcipbccodaaHpS
import Derived.Test.YtekcpcipbccodaaHpO
namespace Go.Proofs.Ytekcpcipbccodaa.Mem
open Go.RowKit Go.Proofs.YtekcpcipbccodaaW.PrintWords Go.Proofs.YtekcpcipbccodaaW.PrintLast Go.Proofs.YtekcpcipbccodaaW.PrintMore
set_option linter.unusedVariables false
set_option linter.unusedSimpArgs false

/-- The blocks of S, and those that have been made between w and w1. -/
def grow (S : Nat → Prop) (w w1 : World) (k : Nat) : Prop := S k ∨ (w.heap.size ≤ k ∧ k < w1.heap.size)
/-- The program's heap at g holds L, the document's at r holds R; their blocks are among S. -/
structure PrS (S : Nat → Prop) (W : World) (g r : Nat) (L : List Nd) (t : Int) (R : List It) : Prop where
  h : ∃ v l, HpI W g v l t ∧ Holds l L t ∧ ∀ k, foot g v k → S k
  r : ∃ v, HpR W r v R ∧ ∀ k, foot r v k → S k
theorem HpR.lt {W : World} {g : Nat} {v : Value} {l : List It} (h : HpR W g v l) {k : Nat} (hk : foot g v k) : k < W.heap.size := by
  rcases hk with rfl | hk
  · exact blk_lt h.1
  · rcases h.2.2 with ⟨rfl, _⟩ | ⟨b, cap, cur, rfl, _, hb, _⟩
    · simp [Value.ownBlock] at hk
    · obtain rfl : b = k := by simpa [Value.ownBlock] using hk
      exact blk_lt hb
theorem foot_ty {w : World} {g : Nat} {v : Value} {l : List Nd} {t : Int} (h : HpI w g v l t) {k : Nat} (hk : foot g v k) : ∃ cs ty, w.heap[k]? = some (.cells cs ty (0, 0)) ∧ (ty = 71 ∨ ty = 89) := by
  rcases hk with rfl | hk
  · exact ⟨_, _, h.1, .inl rfl⟩
  · obtain ⟨cs, hc⟩ := own_typed h.2 k hk
    exact ⟨cs, _, hc, .inr rfl⟩
theorem foot_tyR {w : World} {g : Nat} {v : Value} {l : List It} (h : HpR w g v l) {k : Nat} (hk : foot g v k) : ∃ cs ty, w.heap[k]? = some (.cells cs ty (0, 0)) ∧ (ty = 74 ∨ ty = 92) := by
  rcases hk with rfl | hk
  · exact ⟨_, _, h.1, .inl rfl⟩
  · obtain ⟨cs, hc⟩ := own_typed h.2 k hk
    exact ⟨cs, _, hc, .inr rfl⟩
theorem foot_ne {w : World} {g r : Nat} {v vr : Value} {l : List Nd} {t : Int} {R : List It} (h : HpI w g v l t) (hr : HpR w r vr R) (k : Nat) (hk : foot r vr k) : ¬ foot g v k := by
  intro hk2
  obtain ⟨cs, ty, h1, h2⟩ := foot_ty h hk2
  obtain ⟨cs', ty', h3, h4⟩ := foot_tyR hr hk
  rw [h1] at h3
  simp only [Option.some.injEq, Obj.cells.injEq] at h3
  obtain ⟨_, rfl, _⟩ := h3
  rcases h2 with rfl | rfl <;> rcases h4 with h4 | h4 <;> exact absurd h4 (by decide)
section
variable {S T : Nat → Prop} {w W W1 : World} {g r : Nat} {L : List Nd} {t : Int} {R : List It}
theorem PrS.frm (h : PrS S W g r L t R) (hF : Frm T W W1) (hd : ∀ k, S k → ¬ T k) : PrS S W1 g r L t R := by
  obtain ⟨⟨v, l, h1, h2, h3⟩, ⟨vr, h4, h5⟩⟩ := h
  exact ⟨⟨v, l, h1.frm hF (fun k hk => hd k (h3 k hk)), h2, h3⟩, ⟨vr, h4.frm hF (fun k hk => hd k (h5 k hk)), h5⟩⟩
theorem PrS.below (h : PrS S W g r L t R) (hb : Below W.heap.size W W1) : PrS S W1 g r L t R := h.frm (Frm.of_below hb (fun _ => False)) (fun _ _ h => h)
theorem PrS.drewN (h : PrS S W g r L t R) (n : Nat) : PrS S (W.drewN n) g r L t R := h.below (pw_below_drewN (Below.refl _ _) n)
theorem PrS.drew (h : PrS S W g r L t R) : PrS S W.drew g r L t R := h.below (below_drew1 (Below.refl _ _))
theorem PrS.alloc (h : PrS S W g r L t R) (o : Obj) : PrS S (W.alloc o) g r L t R := h.below (below_alloc (Below.refl _ _) o)
theorem PrS.mono (h : PrS S W g r L t R) (hs : ∀ k, S k → k < W.heap.size → T k) : PrS T W g r L t R := by
  obtain ⟨⟨v, l, h1, h2, h3⟩, ⟨vr, h4, h5⟩⟩ := h
  exact ⟨⟨v, l, h1, h2, fun k hk => hs k (h3 k hk) (h1.lt hk)⟩, ⟨vr, h4, fun k hk => hs k (h5 k hk) (h4.lt hk)⟩⟩

theorem prs_push (key val : Int) (h : PrS S w g r L t R) (ht0 : 0 ≤ t) (ht1 : t < 4611686018427387904) (hl : (L.length + 1) * 24 ≤ 140737488355328) :
    Calls Try.prog 29 #[.pointer (some ⟨g, 0, none⟩), .int .i64 key, .int .i64 val] w fun e w' => e = .returned (.tuple #[]) ∧ PrS (grow S w w') w' g r (L ++ [⟨key, t, val⟩]) (t + 1) R ∧ Frm S w w' := by
  obtain ⟨⟨v, l, h1, h2, h3⟩, ⟨vr, h4, h5⟩⟩ := h
  have hll : l.length = L.length := h2.perm.length_eq
  refine (push_calls w g v l t key val h1 ht0 ht1 (by omega)).mono ?_
  rintro e w' ⟨v', he, hI', hv, hF⟩
  refine ⟨he, ⟨⟨v', _, hI', h2.push key val, fun k hk => ?_⟩, ⟨vr, h4.frm hF (foot_ne h1 h4), fun k hk => .inl (h5 k hk)⟩⟩, hF.mono h3⟩
  have hlt := hI'.lt hk
  rcases hk with hk | hk
  · exact .inl (h3 k (.inl hk))
  · rcases hv with hv | ⟨b, hv, hge⟩
    · exact .inl (h3 k (.inr (by rw [← hv]; exact hk)))
    · rw [hv] at hk
      injection hk with hk
      exact .inr ⟨by omega, hlt⟩
theorem prs_rpush (key val : Int) (h : PrS S w g r L t R) (hl : (R.length + 1) * 16 ≤ 140737488355328) :
    Calls Try.prog 30 #[.pointer (some ⟨r, 0, none⟩), .int .i64 key, .int .i64 val] w fun e w' => e = .returned (.tuple #[]) ∧ PrS (grow S w w') w' g r L t (R ++ [⟨key, val⟩]) ∧ Frm S w w' := by
  obtain ⟨⟨v, l, h1, h2, h3⟩, ⟨vr, h4, h5⟩⟩ := h
  refine (rpush_calls w r vr R key val h4 hl).mono ?_
  rintro e w' ⟨v', he, hI', hv, hF⟩
  refine ⟨he, ⟨⟨v, l, h1.frm hF (fun k hk hk2 => foot_ne h1 h4 k hk2 hk), h2, fun k hk => .inl (h3 k hk)⟩, ⟨v', hI', fun k hk => ?_⟩⟩, hF.mono h5⟩
  have hlt := hI'.lt hk
  rcases hk with hk | hk
  · exact .inl (h5 k (.inl hk))
  · rcases hv with hv | ⟨b, hv, hge⟩
    · exact .inl (h5 k (.inr (by rw [← hv]; exact hk)))
    · rw [hv] at hk
      injection hk with hk
      exact .inr ⟨by omega, hlt⟩
theorem prs_pop (h : PrS S w g r L t R) (hL : L ≠ []) (hl : L.length * 24 ≤ 140737488355328) :
    Calls Try.prog 34 #[.pointer (some ⟨g, 0, none⟩)] w fun e w' => e = .returned (.tuple #[.int .i64 (mn L).key, .int .i64 (mn L).val, .bool true]) ∧ PrS S w' g r (rest L) t R ∧ Frm S w w' := by
  obtain ⟨⟨v, l, h1, h2, h3⟩, ⟨vr, h4, h5⟩⟩ := h
  have hll : l.length = L.length := h2.perm.length_eq
  obtain ⟨x, l, rfl⟩ : ∃ x l', l = x :: l' := List.exists_cons_of_ne_nil (fun e => hL (List.eq_nil_of_length_eq_zero (by rw [← hll, e]; rfl)))
  obtain ⟨m, hm, hx, hH'⟩ := h2.pop
  have e1 : mnI L = m := by unfold mnI; rw [hm]; rfl
  have e2 : mn L = x := by unfold mn; rw [e1, bang, hx]; rfl
  refine (pop_some w g v x l t h1 (by simp at hll; omega)).mono ?_
  rintro e w' ⟨v', he, hI', hv, hF⟩
  have hfoot : ∀ k, foot g v' k → foot g v k := fun k hk => hk.imp id (fun h => by rw [← hv]; exact h)
  exact ⟨by rw [e2]; exact he, ⟨⟨v', _, hI', by unfold rest; rw [e1]; exact hH', fun k hk => h3 k (hfoot k hk)⟩, ⟨vr, h4.frm hF (foot_ne h1 h4), h5⟩⟩, hF.mono h3⟩
theorem prs_pop0 (h : PrS S w g r [] t R) : Calls Try.prog 34 #[.pointer (some ⟨g, 0, none⟩)] w fun e w' => e = .returned (.tuple #[.int .i64 0, .int .i64 0, .bool false]) ∧ Drawn0 w w' := by
  obtain ⟨⟨v, l, h1, h2, h3⟩, _⟩ := h
  obtain rfl : l = [] := List.eq_nil_of_length_eq_zero h2.perm.length_eq
  exact pop_empty w g v t h1
/-- The document's first, of L's values. -/
theorem fst_mn (hL : L ≠ []) : fst (L.map toIt) = (mnI L : Int) ∧ (L.map toIt)[mnI L]? = some ⟨(mn L).key, (mn L).val⟩ := by
  obtain ⟨m, hm, hml, _⟩ := fst_spec (L.map toIt) (by simpa using hL)
  have e1 : mnI L = m := by unfold mnI; rw [hm]; rfl
  refine ⟨by rw [e1]; exact hm, ?_⟩
  have hlt := mnI_lt hL
  rw [List.getElem?_map, List.getElem?_eq_getElem hlt]
  unfold mn
  rw [bang, List.getElem?_eq_getElem hlt]
  rfl
theorem prs_rpop {Q : List Nd} (h : PrS S w g r L t (Q.map toIt)) (hL : Q ≠ []) (hl : Q.length * 16 ≤ 140737488355328) :
    Calls Try.prog 32 #[.pointer (some ⟨r, 0, none⟩)] w fun e w' => e = .returned (.tuple #[.int .i64 (mn Q).key, .int .i64 (mn Q).val, .bool true]) ∧ PrS (grow S w w') w' g r L t ((rest Q).map toIt) ∧ Frm S w w' := by
  obtain ⟨⟨v, l, h1, h2, h3⟩, ⟨vr, h4, h5⟩⟩ := h
  obtain ⟨hm, hx⟩ := fst_mn hL
  refine (rpop_some w r vr _ h4 (by simpa using hl) _ _ hm hx).mono ?_
  rintro e w' ⟨v', he, hI', hv, hF⟩
  have hFs : Frm S w w' := hF.mono (fun k hk => hk ▸ h5 r (.inl rfl))
  refine ⟨he, ⟨⟨v, l, h1.frm hF (fun k hk hk2 => foot_ne h1 h4 k (.inl hk2) hk), h2, fun k hk => .inl (h3 k hk)⟩, ⟨v', by unfold rest; rw [toIt_erase]; exact hI', fun k hk => ?_⟩⟩, hFs⟩
  have hlt := hI'.lt hk
  rcases hk with hk | hk
  · exact .inl (h5 k (.inl hk))
  · exact .inr ⟨hv k hk, hlt⟩
theorem prs_rpop0 (h : PrS S w g r L t []) : Calls Try.prog 32 #[.pointer (some ⟨r, 0, none⟩)] w fun e w' => e = .returned (.tuple #[.int .i64 0, .int .i64 0, .bool false]) ∧ Drawn0 w w' := by
  obtain ⟨_, ⟨vr, h4, h5⟩⟩ := h
  exact rpop_empty w r vr h4
theorem prs_peek (h : PrS S w g r L t R) (hL : L ≠ []) : Calls Try.prog 45 #[.pointer (some ⟨g, 0, none⟩)] w fun e w' => e = .returned (.tuple #[.int .i64 (mn L).key, .int .i64 (mn L).val, .bool true]) ∧ Drawn0 w w' := by
  obtain ⟨⟨v, l, h1, h2, h3⟩, _⟩ := h
  have hll : l.length = L.length := h2.perm.length_eq
  obtain ⟨x, l, rfl⟩ : ∃ x l', l = x :: l' := List.exists_cons_of_ne_nil (fun e => hL (List.eq_nil_of_length_eq_zero (by rw [← hll, e]; rfl)))
  obtain ⟨m, hm, hx, hH'⟩ := h2.pop
  have e1 : mnI L = m := by unfold mnI; rw [hm]; rfl
  have e2 : mn L = x := by unfold mn; rw [e1, bang, hx]; rfl
  rw [e2]
  exact peek_some w g v x l t h1
theorem prs_peek0 (h : PrS S w g r [] t R) : Calls Try.prog 45 #[.pointer (some ⟨g, 0, none⟩)] w fun e w' => e = .returned (.tuple #[.int .i64 0, .int .i64 0, .bool false]) ∧ Drawn0 w w' := by
  obtain ⟨⟨v, l, h1, h2, h3⟩, _⟩ := h
  obtain rfl : l = [] := List.eq_nil_of_length_eq_zero h2.perm.length_eq
  exact peek_empty w g v t h1
theorem prs_rpeek {Q : List Nd} (h : PrS S w g r L t (Q.map toIt)) (hL : Q ≠ []) (hl : Q.length * 16 ≤ 140737488355328) : Calls Try.prog 46 #[.pointer (some ⟨r, 0, none⟩)] w fun e w' => e = .returned (.tuple #[.int .i64 (mn Q).key, .int .i64 (mn Q).val, .bool true]) ∧ Drawn0 w w' := by
  obtain ⟨_, ⟨vr, h4, h5⟩⟩ := h
  obtain ⟨hm, hx⟩ := fst_mn hL
  exact rpeek_some w r vr _ h4 (by simpa using hl) _ _ hm hx
theorem prs_rpeek0 (h : PrS S w g r L t []) : Calls Try.prog 46 #[.pointer (some ⟨r, 0, none⟩)] w fun e w' => e = .returned (.tuple #[.int .i64 0, .int .i64 0, .bool false]) ∧ Drawn0 w w' := by
  obtain ⟨_, ⟨vr, h4, h5⟩⟩ := h
  exact rpeek_empty w r vr h4
theorem prs_len (h : PrS S w g r L t R) : Calls Try.prog 18 #[.pointer (some ⟨g, 0, none⟩)] w fun e w' => e = .returned (.int .i64 L.length) ∧ Drawn0 w w' := by
  obtain ⟨⟨v, l, h1, h2, h3⟩, _⟩ := h
  have hll : l.length = L.length := h2.perm.length_eq
  rw [← hll]
  exact len_calls w g v l t h1
theorem prs_rlen (h : PrS S w g r L t R) : Calls Try.prog 33 #[.pointer (some ⟨r, 0, none⟩)] w fun e w' => e = .returned (.int .i64 R.length) ∧ Drawn0 w w' := by
  obtain ⟨_, ⟨vr, h4, h5⟩⟩ := h
  exact rlen_calls w r vr R h4
end
/-- What a step of a script does. -/
def stepL (kind key val : Int) (L : List Nd) (t : Int) : List Nd := if kind = 1 then L ++ [⟨key, t, val⟩] else if kind = 2 then rest L else L
def stepT (kind : Int) (t : Int) : Int := if kind = 1 then t + 1 else t
theorem rest_nil : rest [] = [] := rfl
theorem grow_trans {S : Nat → Prop} {w w1 w2 : World} (h1 : w.heap.size ≤ w1.heap.size) (h2 : w1.heap.size ≤ w2.heap.size) (k : Nat) (h : grow (grow S w w1) w1 w2 k) : grow S w w2 k := by
  unfold grow at *
  rcases h with (h | h) | h
  · exact .inl h
  · exact .inr ⟨h.1, by omega⟩
  · exact .inr ⟨by omega, h.2⟩
theorem frm_grow {S : Nat → Prop} {w w1 w2 : World} (h1 : Frm S w w1) (h2 : Frm (grow S w w1) w1 w2) : Frm S w w2 := h1.trans h2 (fun k hk => hk.imp id (fun h => h.1))
/-- The end of a step: what it returns, what is held, what has been turned. -/
def StepEnd (S : Nat → Prop) (w : World) (g r : Nat) (L : List Nd) (t : Int) (e : Ending) (w' : World) : Prop :=
  e = .returned (.bool true) ∧ PrS (grow S w w') w' g r L t (L.map toIt) ∧ Frm S w w'

theorem StepEnd.of {S : Nat → Prop} {w w' : World} {g r : Nat} {L : List Nd} {t : Int} {e : Ending} (he : e = .returned (.bool true)) {S' : Nat → Prop} (hp : PrS S' w' g r L t (L.map toIt)) (hs : ∀ k, S' k → grow S w w' k) (hF : Frm S w w') : StepEnd S w g r L t e w' :=
  ⟨he, hp.mono (fun k hk _ => hs k hk), hF⟩
theorem box_far {S : Nat → Prop} {w w1 : World} {o o2 : Obj} {bx : Nat} (hb : w.heap[bx]? = some o) (hF : Frm S w w1) (hn : ¬ S bx) : w1.heap[bx]? = some o := hF.blk hb hn
set_option maxHeartbeats 8000000 in
set_option maxRecDepth 100000 in
theorem step_push (w : World) (S : Nat → Prop) (g r : Nat) (L : List Nd) (t key val : Int) (two : Bool) (h : PrS S w g r L t (L.map toIt)) (hS : ∀ k, S k → k < w.heap.size) (ht0 : 0 ≤ t) (ht1 : t < 4611686018427387904) (hl : (L.length + 1) * 24 ≤ 140737488355328) :
    Calls Try.prog 17 #[.pointer (some ⟨g, 0, none⟩), .pointer (some ⟨r, 0, none⟩), .agg #[.int .i64 1, .int .i64 key, .int .i64 val, .bool two]] w (StepEnd S w g r (L ++ [⟨key, t, val⟩]) (t + 1)) := by
  have h0 := Aside0.mk h
  have HS := Aside0.mk hS
  have hlm : (L.map toIt).length = L.length := by simp
  have hlen : L.length ≤ 5864062014804 := by omega
  clear h hl hS
  go_enter Try.func17, Try.ntmps17
  go_wp2_with fail
  obtain ⟨bx, hbx⟩ : ∃ bx, bx = w.heap.size := ⟨_, rfl⟩
  obtain ⟨w1, hw1⟩ : ∃ w1, w1 = w.alloc (Obj.cells #[Value.int IntKind.i64 1, Value.int IntKind.i64 key, Value.int IntKind.i64 val, Value.bool two] 28) := ⟨_, rfl⟩
  have hB := Aside0.mk (blk_new w (Obj.cells #[Value.int IntKind.i64 1, Value.int IntKind.i64 key, Value.int IntKind.i64 val, Value.bool two] 28))
  have hF1 := Aside0.mk ((Frm.refl S w).alloc (Obj.cells #[Value.int IntKind.i64 1, Value.int IntKind.i64 key, Value.int IntKind.i64 val, Value.bool two] 28))
  have hP1 := Aside0.mk (h0.out.alloc (Obj.cells #[Value.int IntKind.i64 1, Value.int IntKind.i64 key, Value.int IntKind.i64 val, Value.bool two] 28))
  rw [← hw1] at hB hF1 hP1 ⊢
  rw [← hbx] at hB ⊢
  have HBX := Aside0.mk hbx
  clear hw1 hbx
  refine (prs_push key val hP1.out ht0 ht1 (by omega)).mono ?_
  rintro e w2 ⟨rfl, hp2, hF2⟩
  have HP2 := Aside0.mk hp2
  have HF2 := Aside0.mk hF2
  have hB2 := Aside0.mk (hF2.blk hB.out (fun hs => by have := HS.out _ hs; have := HBX.out; omega))
  have b1 : w2.cell? ⟨bx, 1, none⟩ = some (.int .i64 key) := blk_cell hB2.out 1
  have b2 : w2.cell? ⟨bx, 2, none⟩ = some (.int .i64 val) := blk_cell hB2.out 2
  clear hp2 hF2
  go_wp2_with fail
  refine (prs_rpush key val HP2.out (by rw [hlm]; omega)).mono ?_
  rintro e w3 ⟨rfl, hp3, hF3⟩
  have HP3 := Aside0.mk hp3
  have HF3 := Aside0.mk (frm_grow HF2.out hF3)
  have HZ := Aside0.mk hF3.size
  clear hp3 hF3
  go_wp2_with fail
  go_ret
  refine StepEnd.of rfl (by rw [List.map_append]; exact HP3.out) (fun k hk => ?_) (hF1.out.trans HF3.out (fun k hk => .inl hk))
  have h1 := hF1.out.size
  rcases grow_trans HF2.out.size HZ.out k hk with h | h
  · exact .inl h
  · exact .inr ⟨by omega, h.2⟩
set_option maxHeartbeats 8000000 in
set_option maxRecDepth 100000 in
theorem step_pop (w : World) (S : Nat → Prop) (g r : Nat) (L : List Nd) (t key val : Int) (two : Bool) (h : PrS S w g r L t (L.map toIt)) (hS : ∀ k, S k → k < w.heap.size) (hl : L.length * 24 ≤ 140737488355328) :
    Calls Try.prog 17 #[.pointer (some ⟨g, 0, none⟩), .pointer (some ⟨r, 0, none⟩), .agg #[.int .i64 2, .int .i64 key, .int .i64 val, .bool two]] w (StepEnd S w g r (rest L) t) := by
  by_cases hL : L = []
  · subst hL
    have h0 := Aside0.mk h
    have HS := Aside0.mk hS
    clear h hl hS
    go_enter Try.func17, Try.ntmps17
    go_wp2_with fail
    obtain ⟨w1, hw1⟩ : ∃ w1, w1 = w.alloc (Obj.cells #[Value.int IntKind.i64 2, Value.int IntKind.i64 key, Value.int IntKind.i64 val, Value.bool two] 28) := ⟨_, rfl⟩
    have hF1 := Aside0.mk ((Frm.refl S w).alloc (Obj.cells #[Value.int IntKind.i64 2, Value.int IntKind.i64 key, Value.int IntKind.i64 val, Value.bool two] 28))
    have hP1 := Aside0.mk (h0.out.alloc (Obj.cells #[Value.int IntKind.i64 2, Value.int IntKind.i64 key, Value.int IntKind.i64 val, Value.bool two] 28))
    rw [← hw1] at hF1 hP1 ⊢
    clear hw1 h0 HS
    refine (prs_pop0 hP1.out).mono ?_
    rintro e w2 ⟨rfl, n2, rfl⟩
    go_wp2_with fail
    refine (prs_rpop0 (hP1.out.drewN n2)).mono ?_
    rintro e w3 ⟨rfl, n3, rfl⟩
    go_wp2_with fail
    go_ret
    exact StepEnd.of rfl (hP1.out.drewN _) (fun k hk => .inl hk) (hF1.out.drewN _)
  · have HNE := Aside0.mk hL
    clear hL
    have h0 := Aside0.mk h
    have HS := Aside0.mk hS
    have hlen : L.length ≤ 5864062014805 := by omega
    clear h hl hS
    go_enter Try.func17, Try.ntmps17
    go_wp2_with fail
    obtain ⟨w1, hw1⟩ : ∃ w1, w1 = w.alloc (Obj.cells #[Value.int IntKind.i64 2, Value.int IntKind.i64 key, Value.int IntKind.i64 val, Value.bool two] 28) := ⟨_, rfl⟩
    have hF1 := Aside0.mk ((Frm.refl S w).alloc (Obj.cells #[Value.int IntKind.i64 2, Value.int IntKind.i64 key, Value.int IntKind.i64 val, Value.bool two] 28))
    have hP1 := Aside0.mk (h0.out.alloc (Obj.cells #[Value.int IntKind.i64 2, Value.int IntKind.i64 key, Value.int IntKind.i64 val, Value.bool two] 28))
    rw [← hw1] at hF1 hP1 ⊢
    clear hw1 h0 HS
    refine (prs_pop hP1.out HNE.out (by omega)).mono ?_
    rintro e w2 ⟨rfl, hp2, hF2⟩
    have HP2 := Aside0.mk hp2
    have HF2 := Aside0.mk (hF1.out.trans hF2 (fun k hk => .inl hk))
    have hz2 := Aside0.mk hF1.out.size
    have hz3 := Aside0.mk hF2.size
    clear hp2 hF2 hF1 hP1
    go_wp2_with fail
    refine (prs_rpop HP2.out HNE.out (by omega)).mono ?_
    rintro e w3 ⟨rfl, hp3, hF3⟩
    have HP3 := Aside0.mk hp3
    have HF3 := Aside0.mk (HF2.out.trans hF3 (fun k hk => .inl hk))
    clear hp3 hF3
    go_wp2_with fail
    go_ret
    refine StepEnd.of rfl HP3.out (fun k hk => ?_) HF3.out
    have h2 := hz2.out
    have h3 := hz3.out
    rcases hk with h | h
    · exact .inl h
    · exact .inr ⟨by omega, h.2⟩
set_option maxHeartbeats 8000000 in
set_option maxRecDepth 100000 in
theorem step_peek (w : World) (S : Nat → Prop) (g r : Nat) (L : List Nd) (t key val : Int) (two : Bool) (h : PrS S w g r L t (L.map toIt)) (hS : ∀ k, S k → k < w.heap.size) (hl : L.length * 24 ≤ 140737488355328) :
    Calls Try.prog 17 #[.pointer (some ⟨g, 0, none⟩), .pointer (some ⟨r, 0, none⟩), .agg #[.int .i64 3, .int .i64 key, .int .i64 val, .bool two]] w (StepEnd S w g r L t) := by
  by_cases hL : L = []
  · subst hL
    have h0 := Aside0.mk h
    have HS := Aside0.mk hS
    clear h hl hS
    go_enter Try.func17, Try.ntmps17
    go_wp2_with fail
    obtain ⟨w1, hw1⟩ : ∃ w1, w1 = w.alloc (Obj.cells #[Value.int IntKind.i64 3, Value.int IntKind.i64 key, Value.int IntKind.i64 val, Value.bool two] 28) := ⟨_, rfl⟩
    have hF1 := Aside0.mk ((Frm.refl S w).alloc (Obj.cells #[Value.int IntKind.i64 3, Value.int IntKind.i64 key, Value.int IntKind.i64 val, Value.bool two] 28))
    have hP1 := Aside0.mk (h0.out.alloc (Obj.cells #[Value.int IntKind.i64 3, Value.int IntKind.i64 key, Value.int IntKind.i64 val, Value.bool two] 28))
    rw [← hw1] at hF1 hP1 ⊢
    clear hw1 h0 HS
    refine (prs_peek0 hP1.out).mono ?_
    rintro e w2 ⟨rfl, n2, rfl⟩
    go_wp2_with fail
    refine (prs_rpeek0 (hP1.out.drewN n2)).mono ?_
    rintro e w3 ⟨rfl, n3, rfl⟩
    go_wp2_with fail
    go_ret
    exact StepEnd.of rfl (hP1.out.drewN _) (fun k hk => .inl hk) (hF1.out.drewN _)
  · have HNE := Aside0.mk hL
    clear hL
    have h0 := Aside0.mk h
    have HS := Aside0.mk hS
    have hlen : L.length ≤ 5864062014805 := by omega
    clear h hl hS
    go_enter Try.func17, Try.ntmps17
    go_wp2_with fail
    obtain ⟨w1, hw1⟩ : ∃ w1, w1 = w.alloc (Obj.cells #[Value.int IntKind.i64 3, Value.int IntKind.i64 key, Value.int IntKind.i64 val, Value.bool two] 28) := ⟨_, rfl⟩
    have hF1 := Aside0.mk ((Frm.refl S w).alloc (Obj.cells #[Value.int IntKind.i64 3, Value.int IntKind.i64 key, Value.int IntKind.i64 val, Value.bool two] 28))
    have hP1 := Aside0.mk (h0.out.alloc (Obj.cells #[Value.int IntKind.i64 3, Value.int IntKind.i64 key, Value.int IntKind.i64 val, Value.bool two] 28))
    rw [← hw1] at hF1 hP1 ⊢
    clear hw1 h0 HS
    refine (prs_peek hP1.out HNE.out).mono ?_
    rintro e w2 ⟨rfl, n2, rfl⟩
    go_wp2_with fail
    refine (prs_rpeek (hP1.out.drewN n2) HNE.out (by omega)).mono ?_
    rintro e w3 ⟨rfl, n3, rfl⟩
    go_wp2_with fail
    go_ret
    exact StepEnd.of rfl (hP1.out.drewN _) (fun k hk => .inl hk) (hF1.out.drewN _)
set_option maxHeartbeats 8000000 in
set_option maxRecDepth 100000 in
theorem step_len (w : World) (S : Nat → Prop) (g r : Nat) (L : List Nd) (t key val : Int) (two : Bool) (h : PrS S w g r L t (L.map toIt)) (hS : ∀ k, S k → k < w.heap.size) (hl : L.length * 24 ≤ 140737488355328) :
    Calls Try.prog 17 #[.pointer (some ⟨g, 0, none⟩), .pointer (some ⟨r, 0, none⟩), .agg #[.int .i64 4, .int .i64 key, .int .i64 val, .bool two]] w (StepEnd S w g r L t) := by
  have hlm : ((L.map toIt).length : Int) = (L.length : Int) := by simp
  have HLM := Aside0.mk hlm
  clear hlm
  have h0 := Aside0.mk h
  have HS := Aside0.mk hS
  have hlen : L.length ≤ 5864062014805 := by omega
  clear h hl hS
  go_enter Try.func17, Try.ntmps17
  go_wp2_with fail
  obtain ⟨w1, hw1⟩ : ∃ w1, w1 = w.alloc (Obj.cells #[Value.int IntKind.i64 4, Value.int IntKind.i64 key, Value.int IntKind.i64 val, Value.bool two] 28) := ⟨_, rfl⟩
  have hF1 := Aside0.mk ((Frm.refl S w).alloc (Obj.cells #[Value.int IntKind.i64 4, Value.int IntKind.i64 key, Value.int IntKind.i64 val, Value.bool two] 28))
  have hP1 := Aside0.mk (h0.out.alloc (Obj.cells #[Value.int IntKind.i64 4, Value.int IntKind.i64 key, Value.int IntKind.i64 val, Value.bool two] 28))
  rw [← hw1] at hF1 hP1 ⊢
  clear hw1 h0 HS
  refine (prs_len hP1.out).mono ?_
  rintro e w2 ⟨rfl, n2, rfl⟩
  go_wp2_with fail
  refine (prs_rlen (hP1.out.drewN n2)).mono ?_
  rintro e w3 ⟨rfl, n3, rfl⟩
  rw [HLM.out]
  go_wp2_with fail
  go_ret
  exact StepEnd.of rfl (hP1.out.drewN _) (fun k hk => .inl hk) (hF1.out.drewN _)
set_option maxHeartbeats 8000000 in
set_option maxRecDepth 100000 in
theorem step_none (w : World) (S : Nat → Prop) (g r : Nat) (L : List Nd) (t key val : Int) (two : Bool) (h : PrS S w g r L t (L.map toIt)) (hS : ∀ k, S k → k < w.heap.size) (kind : Int) (n1 : kind ≠ 1) (n2 : kind ≠ 2) (n3 : kind ≠ 3) (n4 : kind ≠ 4) (hl : L.length * 24 ≤ 140737488355328) :
    Calls Try.prog 17 #[.pointer (some ⟨g, 0, none⟩), .pointer (some ⟨r, 0, none⟩), .agg #[.int .i64 kind, .int .i64 key, .int .i64 val, .bool two]] w (StepEnd S w g r L t) := by
  have e1 : (kind == 1) = false := beq_eq_false_iff_ne.2 n1
  have e2 : (kind == 2) = false := beq_eq_false_iff_ne.2 n2
  have e3 : (kind == 3) = false := beq_eq_false_iff_ne.2 n3
  have e4 : (kind == 4) = false := beq_eq_false_iff_ne.2 n4
  clear n1 n2 n3 n4
  have h0 := Aside0.mk h
  clear h hl hS
  go_enter Try.func17, Try.ntmps17
  go_wp2_with fail
  go_ret
  exact StepEnd.of rfl (h0.out.alloc _) (fun k hk => .inl hk) ((Frm.refl S w).alloc _)
theorem step_calls (w : World) (S : Nat → Prop) (g r : Nat) (L : List Nd) (t kind key val : Int) (two : Bool) (h : PrS S w g r L t (L.map toIt)) (hS : ∀ k, S k → k < w.heap.size) (ht0 : 0 ≤ t) (ht1 : t < 4611686018427387904) (hl : (L.length + 1) * 24 ≤ 140737488355328) :
    Calls Try.prog 17 #[.pointer (some ⟨g, 0, none⟩), .pointer (some ⟨r, 0, none⟩), .agg #[.int .i64 kind, .int .i64 key, .int .i64 val, .bool two]] w (StepEnd S w g r (stepL kind key val L t) (stepT kind t)) := by
  by_cases n1 : kind = 1
  · subst n1; exact step_push w S g r L t key val two h hS ht0 ht1 hl
  · by_cases n2 : kind = 2
    · subst n2; exact step_pop w S g r L t key val two h hS (by omega)
    · unfold stepL stepT
      rw [if_neg n1, if_neg n1, if_neg n2]
      by_cases n3 : kind = 3
      · subst n3; exact step_peek w S g r L t key val two h hS (by omega)
      · by_cases n4 : kind = 4
        · subst n4; exact step_len w S g r L t key val two h hS (by omega)
        · exact step_none w S g r L t key val two h hS kind n1 n2 n3 n4 (by omega)
end Go.Proofs.Ytekcpcipbccodaa.Mem
