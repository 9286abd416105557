/- The program's heap and the document's beside variables in memory; both as Drain's loop sees them. -/
import Derived.Test.YtekcpcipbccodaaHpT
import Derived.Test.YtekcpcipbccodaaHpO
import Derived.Laws.Rows
import Derived.Deep.RegionHeld3
import Derived.OrdersIn
namespace Go.Proofs.Ytekcpcipbccodaa.Mem
open Go.RowKit Go.Proofs.YtekcpcipbccodaaW.PrintWords Go.Proofs.YtekcpcipbccodaaW.PrintLast Go.Proofs.YtekcpcipbccodaaW.PrintMore
set_option linter.unusedVariables false
set_option linter.unusedSimpArgs false

/-- The pair; the variables bx hold what they hold; the blocks F are none of the pair's. -/
structure Pd (w : World) (F : Nat → Prop) (bx : List (Nat × Obj)) (g r : Nat) (L Q : List Nd) (T : Int) (W : World) : Prop where
  ex : ∃ S : Nat → Prop, PrS S W g r L T (Q.map toIt) ∧ ∀ k, S k → w.heap.size ≤ k ∧ k < W.heap.size ∧ ¬ F k ∧ ∀ p ∈ bx, p.1 ≠ k
  cst : ∀ p ∈ bx, W.heap[p.1]? = some p.2
  fx : ∀ k, F k → k < W.heap.size
  bel : Below w.heap.size w W
/-- A call's end: the pair as it is now; F's blocks as they were. -/
def PdE (w : World) (F : Nat → Prop) (bx : List (Nat × Obj)) (g r : Nat) (L Q : List Nd) (T : Int) (W W' : World) : Prop :=
  Pd w F bx g r L Q T W' ∧ ∀ k, F k → W'.heap[k]? = W.heap[k]?
section
variable {w : World} {F : Nat → Prop} {bx : List (Nat × Obj)} {g r : Nat} {L Q : List Nd} {T : Int} {W W' : World}
theorem Pd.below (h : Pd w F bx g r L Q T W) (hb : Below W.heap.size W W') : Pd w F bx g r L Q T W' := by
  obtain ⟨⟨S, hp, hS⟩, hc, hf, hw⟩ := h
  have := hb.size
  exact ⟨⟨S, hp.below hb, fun k hk => ⟨(hS k hk).1, by have := (hS k hk).2.1; omega, (hS k hk).2.2⟩⟩, fun p hp => (hb.block p.1 (blk_lt (hc p hp))).trans (hc p hp), fun k hk => by have := hf k hk; omega, below_step hw hb⟩
theorem Pd.drewN (h : Pd w F bx g r L Q T W) (n : Nat) : Pd w F bx g r L Q T (W.drewN n) := h.below (pw_below_drewN (Below.refl _ _) n)
theorem Pd.drew (h : Pd w F bx g r L Q T W) : Pd w F bx g r L Q T W.drew := h.below (below_drew1 (Below.refl _ _))
theorem Pd.alloc0 (h : Pd w F bx g r L Q T W) (o : Obj) : Pd w F bx g r L Q T (W.alloc o) := h.below (below_alloc (Below.refl _ _) o)
theorem Pd.sub {bx' : List (Nat × Obj)} (h : Pd w F bx g r L Q T W) (hs : ∀ p ∈ bx', p ∈ bx) : Pd w F bx' g r L Q T W :=
  ⟨h.ex.imp fun S hS => ⟨hS.1, fun k hk => ⟨(hS.2 k hk).1, (hS.2 k hk).2.1, (hS.2 k hk).2.2.1, fun p hp => (hS.2 k hk).2.2.2 p (hs p hp)⟩⟩, fun p hp => h.cst p (hs p hp), h.fx, h.bel⟩
/-- A variable made. -/
theorem Pd.alloc (h : Pd w F bx g r L Q T W) (o : Obj) : Pd w F ((W.heap.size, o) :: bx) g r L Q T (W.alloc o) := by
  have h1 := h.alloc0 o
  obtain ⟨S, hp, hS⟩ := h.ex
  refine ⟨⟨S, hp.alloc o, fun k hk => ?_⟩, ?_, h1.fx, h1.bel⟩
  · obtain ⟨q1, q2, q3, q4⟩ := hS k hk
    refine ⟨q1, by simp; omega, q3, ?_⟩
    intro p hp
    rcases List.mem_cons.1 hp with rfl | hp
    · show W.heap.size ≠ k
      omega
    · exact q4 p hp
  · intro p hp
    rcases List.mem_cons.1 hp with rfl | hp
    · exact blk_new W o
    · exact h1.cst p hp
theorem Pd.far {F' : Nat → Prop} (h : Pd w F bx g r L Q T W) (hF : ∀ k, F' k → k < W.heap.size ∧ (F k ∨ ∃ p ∈ bx, p.1 = k)) : Pd w F' bx g r L Q T W := by
  obtain ⟨S, hp, hS⟩ := h.ex
  refine ⟨⟨S, hp, fun k hk => ⟨(hS k hk).1, (hS k hk).2.1, fun hf => ?_, (hS k hk).2.2.2⟩⟩, h.cst, fun k hk => (hF k hk).1, h.bel⟩
  rcases (hF k hf).2 with h1 | ⟨p, h1, h2⟩
  · exact (hS k hk).2.2.1 h1
  · exact (hS k hk).2.2.2 p h1 h2
/-- The variable at the list's head, written. -/
theorem Pd.set {b : Nat} {cs : Array Value} {ty : Nat} (h : Pd w F ((b, .cells cs ty (0, 0)) :: bx) g r L Q T W) (hn : ∀ p ∈ bx, p.1 ≠ b) (hb : w.heap.size ≤ b) (j : Nat) (u : Value) :
    Pd w F ((b, .cells (cs.setIfInBounds j u) ty (0, 0)) :: bx) g r L Q T (W.setCell ⟨b, j, none⟩ u) := by
  obtain ⟨S, hp, hS⟩ := h.ex
  have hF : Frm (fun k => k = b) W (W.setCell ⟨b, j, none⟩ u) := (Frm.refl (fun k => k = b) W).setCell (p := ⟨b, j, none⟩) (.inl rfl) u
  refine ⟨⟨S, hp.frm hF (fun k hk e => (hS k hk).2.2.2 _ (.head _) e.symm), fun k hk => ⟨(hS k hk).1, Nat.lt_of_lt_of_le (hS k hk).2.1 hF.size, (hS k hk).2.2.1, ?_⟩⟩, ?_, fun k hk => Nat.lt_of_lt_of_le (h.fx k hk) hF.size, h.bel.setCell (p := ⟨b, j, none⟩) hb u⟩
  · intro p hp
    rcases List.mem_cons.1 hp with rfl | hp
    · exact (hS k hk).2.2.2 (b, .cells cs ty (0, 0)) (.head _)
    · exact (hS k hk).2.2.2 p (.tail _ hp)
  · intro p hp
    rcases List.mem_cons.1 hp with rfl | hp
    · exact blk_set (h.cst _ (.head _)) j u
    · exact hF.blk (h.cst p (.tail _ hp)) (hn p hp)
theorem set_F {b j : Nat} {u : Value} (hF : ¬ F b) (k : Nat) (hk : F k) : (W.setCell ⟨b, j, none⟩ u).heap[k]? = W.heap[k]? :=
  Below.heap_setCell W ⟨b, j, none⟩ u k (fun e => hF (by have e2 : k = b := e; exact e2 ▸ hk))
/-- Book-keeping of a loop, written. -/
theorem Pd.putF (h : Pd w F bx g r L Q T W) {k : Nat} (hk : F k) (hlo : w.heap.size ≤ k) (hn : ∀ p ∈ bx, p.1 ≠ k) (o : Obj) : Pd w F bx g r L Q T (W.putObj k o) := by
  obtain ⟨S, hp, hS⟩ := h.ex
  have hF : Frm (fun q => q = k) W (W.putObj k o) := ⟨rfl, rfl, rfl, by simp, fun q _ hq => World.putObj_heap_other hq⟩
  exact ⟨⟨S, hp.frm hF (fun q hq e => (hS q hq).2.2.1 (e ▸ hk)), fun q hq => ⟨(hS q hq).1, Nat.lt_of_lt_of_le (hS q hq).2.1 hF.size, (hS q hq).2.2⟩⟩, fun p hp => hF.blk (h.cst p hp) (hn p hp), fun q hq => Nat.lt_of_lt_of_le (h.fx q hq) hF.size, hF.then_below h.bel h.bel.size (fun q hq => hq ▸ hlo)⟩
theorem Pd.of_frm {S : Nat → Prop} {L' Q' : List Nd} {T' : Int} (hS : ∀ k, S k → w.heap.size ≤ k ∧ k < W.heap.size ∧ ¬ F k ∧ ∀ p ∈ bx, p.1 ≠ k) (hc : ∀ p ∈ bx, W.heap[p.1]? = some p.2) (hf : ∀ k, F k → k < W.heap.size) (hw : Below w.heap.size w W)
    {S' : Nat → Prop} (hp : PrS S' W' g r L' T' (Q'.map toIt)) (hS' : ∀ k, S' k → grow S W W' k) (hF : Frm S W W') : PdE w F bx g r L' Q' T' W W' := by
  have hsz := hF.size
  have hws := hw.size
  refine ⟨⟨⟨S', hp, fun k hk => ?_⟩, fun p hp => hF.blk (hc p hp) (fun hs => (hS _ hs).2.2.2 p hp rfl), fun k hk => by have := hf k hk; omega, hF.then_below hw hws (fun k hk => (hS k hk).1)⟩, fun k hk => hF.block k (hf k hk) (fun hs => (hS k hs).2.2.1 hk)⟩
  rcases hS' k hk with h | ⟨h1, h2⟩
  · exact ⟨(hS k h).1, by have := (hS k h).2.1; omega, (hS k h).2.2⟩
  · exact ⟨by omega, h2, fun h3 => by have := hf k h3; omega, fun p hp e => by have := blk_lt (hc p hp); omega⟩
theorem pd_push (key val : Int) (h : Pd w F bx g r L Q T W) (ht0 : 0 ≤ T) (ht1 : T < 4611686018427387904) (hl : (L.length + 1) * 24 ≤ 140737488355328) :
    Calls Try.prog 29 #[.pointer (some ⟨g, 0, none⟩), .int .i64 key, .int .i64 val] W fun e W' => e = .returned (.tuple #[]) ∧ PdE w F bx g r (L ++ [⟨key, T, val⟩]) Q (T + 1) W W' := by
  obtain ⟨⟨S, hp, hS⟩, hc, hf, hw⟩ := h
  refine (prs_push key val hp ht0 ht1 hl).mono ?_
  rintro e W' ⟨he, hp2, hF⟩
  exact ⟨he, Pd.of_frm hS hc hf hw hp2 (fun k hk => hk) hF⟩
theorem pd_rpush (key val t : Int) (h : Pd w F bx g r L Q T W) (hl : (Q.length + 1) * 16 ≤ 140737488355328) :
    Calls Try.prog 30 #[.pointer (some ⟨r, 0, none⟩), .int .i64 key, .int .i64 val] W fun e W' => e = .returned (.tuple #[]) ∧ PdE w F bx g r L (Q ++ [⟨key, t, val⟩]) T W W' := by
  obtain ⟨⟨S, hp, hS⟩, hc, hf, hw⟩ := h
  refine (prs_rpush key val hp (by simpa using hl)).mono ?_
  rintro e W' ⟨he, hp2, hF⟩
  exact ⟨he, Pd.of_frm hS hc hf hw (by rw [List.map_append]; exact hp2) (fun k hk => hk) hF⟩
theorem pd_pop (h : Pd w F bx g r L Q T W) (hL : L ≠ []) (hl : L.length * 24 ≤ 140737488355328) :
    Calls Try.prog 34 #[.pointer (some ⟨g, 0, none⟩)] W fun e W' => e = .returned (.tuple #[.int .i64 (mn L).key, .int .i64 (mn L).val, .bool true]) ∧ PdE w F bx g r (rest L) Q T W W' := by
  obtain ⟨⟨S, hp, hS⟩, hc, hf, hw⟩ := h
  refine (prs_pop hp hL hl).mono ?_
  rintro e W' ⟨he, hp2, hF⟩
  exact ⟨he, Pd.of_frm hS hc hf hw hp2 (fun k hk => .inl hk) hF⟩
theorem pd_pop0 (h : Pd w F bx g r [] Q T W) : Calls Try.prog 34 #[.pointer (some ⟨g, 0, none⟩)] W fun e W' => e = .returned (.tuple #[.int .i64 0, .int .i64 0, .bool false]) ∧ Drawn0 W W' := by
  obtain ⟨⟨S, hp, hS⟩, hc, hf, hw⟩ := h
  exact prs_pop0 hp
theorem pd_rpop (h : Pd w F bx g r L Q T W) (hL : Q ≠ []) (hl : Q.length * 16 ≤ 140737488355328) :
    Calls Try.prog 32 #[.pointer (some ⟨r, 0, none⟩)] W fun e W' => e = .returned (.tuple #[.int .i64 (mn Q).key, .int .i64 (mn Q).val, .bool true]) ∧ PdE w F bx g r L (rest Q) T W W' := by
  obtain ⟨⟨S, hp, hS⟩, hc, hf, hw⟩ := h
  refine (prs_rpop hp hL hl).mono ?_
  rintro e W' ⟨he, hp2, hF⟩
  exact ⟨he, Pd.of_frm hS hc hf hw hp2 (fun k hk => hk) hF⟩
theorem pd_rpop0 (h : Pd w F bx g r L [] T W) : Calls Try.prog 32 #[.pointer (some ⟨r, 0, none⟩)] W fun e W' => e = .returned (.tuple #[.int .i64 0, .int .i64 0, .bool false]) ∧ Drawn0 W W' := by
  obtain ⟨⟨S, hp, hS⟩, hc, hf, hw⟩ := h
  exact prs_rpop0 hp
theorem pd_len (h : Pd w F bx g r L Q T W) : Calls Try.prog 18 #[.pointer (some ⟨g, 0, none⟩)] W fun e W' => e = .returned (.int .i64 L.length) ∧ Drawn0 W W' := by
  obtain ⟨⟨S, hp, hS⟩, hc, hf, hw⟩ := h
  exact prs_len hp
theorem pd_rlen (h : Pd w F bx g r L Q T W) : Calls Try.prog 33 #[.pointer (some ⟨r, 0, none⟩)] W fun e W' => e = .returned (.int .i64 Q.length) ∧ Drawn0 W W' := by
  obtain ⟨⟨S, hp, hS⟩, hc, hf, hw⟩ := h
  have := prs_rlen hp
  rwa [List.length_map] at this
theorem pd_step (kind key val : Int) (two : Bool) (h : Pd w F bx g r L L T W) (ht0 : 0 ≤ T) (ht1 : T < 4611686018427387904) (hl : (L.length + 1) * 24 ≤ 140737488355328) :
    Calls Try.prog 17 #[.pointer (some ⟨g, 0, none⟩), .pointer (some ⟨r, 0, none⟩), .agg #[.int .i64 kind, .int .i64 key, .int .i64 val, .bool two]] W fun e W' => e = .returned (.bool true) ∧ PdE w F bx g r (stepL kind key val L T) (stepL kind key val L T) (stepT kind T) W W' := by
  obtain ⟨⟨S, hp, hS⟩, hc, hf, hw⟩ := h
  refine (step_calls W S g r L T kind key val two hp (fun k hk => (hS k hk).2.1) ht0 ht1 hl).mono ?_
  rintro e W' ⟨he, hp2, hF⟩
  exact ⟨he, Pd.of_frm hS hc hf hw hp2 (fun k hk => hk) hF⟩

/-- What Drain's loop leaves alone, without its book-keeping. -/
def dY (w : World) (bx : List (Nat × Obj)) (r : Nat) (vr : Value) (k : Nat) : Prop := k < w.heap.size ∨ (∃ p ∈ bx, p.1 = k) ∨ foot r vr k
def dX (w : World) (F : Nat → Prop) (bx : List (Nat × Obj)) (r : Nat) (vr : Value) (k : Nat) : Prop := dY w bx r vr k ∨ F k
structure dI (w : World) (F : Nat → Prop) (bx : List (Nat × Obj)) (r : Nat) (vr : Value) (Q : List Nd) (W : World) : Prop where
  cst : ∀ p ∈ bx, W.heap[p.1]? = some p.2
  fx : ∀ k, F k → k < W.heap.size
  ref : HpR W r vr (Q.map toIt)
  rs : ∀ k, foot r vr k → w.heap.size ≤ k ∧ ¬ F k ∧ ∀ p ∈ bx, p.1 ≠ k
  bel : Below w.heap.size w W
theorem dI.keep {vr : Value} (h : dI w F bx r vr Q W) (hk : Keep (dY w bx r vr) W W') : dI w F bx r vr Q W' := by
  have hsz := hk.size
  refine ⟨fun p hp => hk.blk (h.cst p hp) (.inr (.inl ⟨p, hp, rfl⟩)), fun k hf => by have := h.fx k hf; omega, ⟨hk.blk h.ref.1 (.inr (.inr (.inl rfl))), own_move h.ref.2 (fun k e => hk.block k (.inr (.inr (.inr e))) (own_lt h.ref.2 k e))⟩, h.rs, h.bel.trans (hk.below (fun k e => .inl e) h.bel.size)⟩
theorem Pd.opened (h : Pd w F bx g r L Q T W) : ∃ vr, HpX (dX w F bx r vr) W g L T ∧ dI w F bx r vr Q W := by
  obtain ⟨⟨S, ⟨⟨v, l, h1, h2, h3⟩, ⟨vr, h4, h5⟩⟩, hS⟩, hc, hf, hw⟩ := h
  refine ⟨vr, ⟨v, l, h1, h2, fun k hk hx => ?_⟩, hc, hf, h4, fun k hk => ⟨(hS k (h5 k hk)).1, (hS k (h5 k hk)).2.2⟩, hw⟩
  obtain ⟨q1, q2, q3, q4⟩ := hS k (h3 k hk)
  rcases hx with (h | ⟨p, hp, e⟩ | h) | h
  · omega
  · exact q4 p hp e
  · exact foot_ne h1 h4 k h hk
  · exact q3 h
theorem Pd.shut {vr : Value} (hH : HpX (dX w F bx r vr) W g L T) (hI : dI w F bx r vr Q W) : Pd w F bx g r L Q T W := by
  obtain ⟨v, l, h1, h2, h3⟩ := hH
  refine ⟨⟨fun k => foot g v k ∨ foot r vr k, ⟨⟨v, l, h1, h2, fun k hk => .inl hk⟩, ⟨vr, hI.ref, fun k hk => .inr hk⟩⟩, ?_⟩, hI.cst, hI.fx, hI.bel⟩
  rintro k (hk | hk)
  · have hx := h3 k hk
    refine ⟨?_, h1.lt hk, fun h => hx (.inr h), fun p hp e => hx (.inl (.inr (.inl ⟨p, hp, e⟩)))⟩
    exact Nat.le_of_not_lt fun h => hx (.inl (.inl h))
  · exact ⟨(hI.rs k hk).1, hI.ref.lt hk, (hI.rs k hk).2⟩
theorem dY_far {vr : Value} {D l : Nat} (hD : w.heap.size ≤ D) (hl : w.heap.size ≤ l) (hbx : ∀ p ∈ bx, p.1 ≠ D ∧ p.1 ≠ l) (hFD : F D) (hFl : F l) (h : dI w F bx r vr Q W) (q : Nat) (hq : dY w bx r vr q) : q ≠ D ∧ q ≠ l := by
  rcases hq with h1 | ⟨p, hp, rfl⟩ | h1
  · omega
  · exact hbx p hp
  · exact ⟨fun e => (h.rs q h1).2.1 (e ▸ hFD), fun e => (h.rs q h1).2.1 (e ▸ hFl)⟩
end
/-- The pair at the start. -/
theorem pd_start {w w1 w2 : World} {o3 o4 o5 o6 : Obj} {g r : Nat} (hg : ((w.alloc o3).alloc o4).heap.size ≤ g) (h1 : HpI w1 g (.slice none 0 0) [] 0) (b1 : Below ((w.alloc o3).alloc o4).heap.size ((w.alloc o3).alloc o4) w1)
    (hr : (w1.alloc o5).heap.size ≤ r) (h2 : HpR w2 r (.slice none 0 0) []) (b2 : Below (w1.alloc o5).heap.size (w1.alloc o5) w2) :
    Pd w (fun _ => False) [(w2.heap.size, o6), (w1.heap.size, o5), (w.heap.size + 1, o4), (w.heap.size, o3)] g r [] [] 0 (w2.alloc o6) := by
  have lg := blk_lt h1.1
  have lr := blk_lt h2.1
  have z1 := b1.size
  have z2 := b2.size
  simp only [World.size_alloc] at hg hr z1 z2
  have no : ∀ {g k : Nat}, foot g (.slice none 0 0) k → k = g := fun h => h.elim id (fun h => by simp [Value.ownBlock] at h)
  have f1 : Frm (fun _ => False) w1 (w2.alloc o6) := (((Frm.refl _ w1).alloc o5).trans (Frm.of_below b2 (fun _ => False)) (fun _ h => .inl h)).alloc o6
  have f2 : Frm (fun _ => False) w2 (w2.alloc o6) := (Frm.refl _ w2).alloc o6
  have e3 : (w2.alloc o6).heap[w.heap.size]? = some o3 := f1.blk ((b1.block _ (by simp; omega)).trans (blk_alloc (blk_new w o3) o4)) (fun h => h)
  have e4 : (w2.alloc o6).heap[w.heap.size + 1]? = some o4 := f1.blk ((b1.block _ (by simp)).trans (by have := blk_new (w.alloc o3) o4; rwa [World.size_alloc] at this)) (fun h => h)
  have e5 : (w2.alloc o6).heap[w1.heap.size]? = some o5 := f2.blk ((b2.block _ (by simp)).trans (blk_new w1 o5)) (fun h => h)
  refine ⟨⟨fun k => k = g ∨ k = r, ⟨⟨_, [], h1.frm f1 (fun _ _ h => h), Holds.nil 0, fun k hk => .inl (no hk)⟩, ⟨_, h2.frm f2 (fun _ _ h => h), fun k hk => .inr (no hk)⟩⟩, ?_⟩, ?_, fun k h => h.elim, ?_⟩
  · intro k hk
    simp only [World.size_alloc, List.mem_cons, List.not_mem_nil, or_false]
    refine ⟨by omega, by omega, fun h => h, ?_⟩
    rintro p (rfl | rfl | rfl | rfl)
    · show w2.heap.size ≠ k
      omega
    · show w1.heap.size ≠ k
      omega
    · show w.heap.size + 1 ≠ k
      omega
    · show w.heap.size ≠ k
      omega
  · intro p hp
    simp only [List.mem_cons, List.not_mem_nil, or_false] at hp
    rcases hp with rfl | rfl | rfl | rfl
    · exact blk_new w2 o6
    · exact e5
    · exact e4
    · exact e3
  · exact below_alloc (below_step (below_alloc (below_step (below_alloc (below_alloc (Below.refl _ w) o3) o4) b1) o5) b2) o6
theorem results_bool {fn : Func} {p : Tmp} (h : fn.results = #[.cell p 4]) (tmps : Array Value) (w : World) (g : Nat) (v : Value)
    (hp : tmps.getD p undef = .pointer (some ⟨g, 0, none⟩)) (hg : w.cell? ⟨g, 0, none⟩ = some v) :
    (results fn tmps).run Try.prog w = .ok v w := by
  have hp' : tmps[p]?.getD undef = .pointer (some ⟨g, 0, none⟩) := by simpa using hp
  have hu := Try.underlying4
  have hl : (loadVar 4 (⟨g, 0, none⟩ : Addr)).run Try.prog w = .ok v w := by
    unfold loadVar isAgg
    rw [Sem.run_bind, Sem.run_bind, run_underlying hu w]
    simp [Result.andThen, hg, go_sem]
  simp [results, h, hp', asAddr, hl]
theorem calls_round {l n : Nat} {P : Program} {f : FuncId} {args : Array Value} {w : World} {R : Ending → World → Prop} (h : Calls P f args w R) : CallsIn (Fence.wide.inRound l) n P f args w R :=
  ⟨trivial, fun cs _ => let ⟨e, w', fr, r, s, x⟩ := h cs; ⟨e, w', fr, r, comesIn_wide.2 s, x⟩⟩
def noDefer (ops : Array Oper) : Bool := ops.all fun o => match o.op with | .defer _ => false | _ => true
theorem noDefer_at {ops : Array Oper} (h : noDefer ops = true) {i : Nat} {o : Oper} (ho : ops[i]? = some o) (c : Call) : o.op ≠ .defer c := by
  intro e
  unfold noDefer at h
  rw [Array.all_eq_true] at h
  obtain ⟨hi, hx⟩ := Array.getElem?_eq_some_iff.1 ho
  have := h i hi
  rw [hx, e] at this
  exact absurd this (by simp)
theorem ops_round {l n : Nat} {P : Program} {ops : Array Oper} {Q : Exit → Act → World → Prop} (hd : noDefer ops = true) (hQ : ∀ a w, ¬ Q .outgrown a w) (L : List Nat) : ∀ (a : Act) (w : World), wpOps P ops Q L a w → wpOpsIn (Fence.wide.inRound l) n P ops Q L a w := by
  induction L with
  | nil => exact fun _ _ h => h
  | cons i rest ih =>
    intro a w h
    unfold wpOps at h
    unfold wpOpsIn
    cases ho : ops[i]? with
    | none => simp only [ho] at h ⊢; exact ih _ _ h
    | some o =>
      simp only [ho] at h ⊢
      by_cases hw : Region.wanted o (yielded ops a.tmps) = true
      · rw [if_pos hw] at h ⊢
        rcases h with h | ⟨_, a0, w0, h⟩
        · refine ⟨fun _ _ => trivial, ?_⟩
          rw [Oper.semAt_plain _ _ _ (noDefer_at hd ho)]
          unfold Oper.wp at h
          cases hr : (execOp a.eval o).run P w with
          | halt x w' =>
            rw [hr] at h
            cases x <;> first | exact h | exact h.elim
          | ok x w' =>
            rw [hr] at h
            cases x with
            | value v => exact ih _ _ h
            | skip => exact ih _ _ h
            | defer d => exact ih _ _ h
            | enter f args =>
              refine ⟨(fun hx => (by cases hx)), calls_round (Calls.mono h ?_)⟩
              intro e w2 h2
              cases e with
              | returned v => exact ih _ _ h2
              | panicked c => exact h2
              | outgrown => exact h2
            | row row args =>
              refine ⟨(fun hx => (by cases hx)), fun c cs _ => ?_⟩
              obtain ⟨v, w2, h2, h3⟩ := h c cs
              exact ⟨v, w2, ih _ _ h2, stepsIn_wide.2 h3⟩
            | _ => exact h.elim
        · exact (hQ a0 w0 h).elim
      · rw [if_neg hw] at h ⊢
        exact ⟨fun _ _ => trivial, ih _ _ h⟩
/-- A region that draws its order, in a round of a loop over a function: one condition for what its loads read. -/
theorem region_round {l n : Nat} {P : Program} {id : Nat} {ops : Array Oper} {Q : Exit → Act → World → Prop} {S : World → Prop} {a : Act} {w : World} (hm : P.follows .mixedOrders = true) (hd : noDefer ops = true) (hQ : ∀ a w, ¬ Q .outgrown a w) (hS : S w.drew)
    (h : S w.drew → wpAnyH P .any ops Q S ops.size (Array.replicate ops.size false) a w.drew) : (Code.region id ops true).wpIn (Fence.wide.inRound l) n P Q a w :=
  wpIn_region_draw fun t => by
    simp only [Region.schedule, hm, Bool.true_or, if_true]
    exact ops_round hd hQ _ _ _ (wpAny_sound ops.size t _ a _ (wpAny_of_held _ _ _ _ (h hS)))
theorem sum_ones (l : List Int) : (l.map (fun _ => 1)).sum = l.length := by
  induction l with
  | nil => rfl
  | cons x l ih => simp [ih]; omega
theorem eql_nilFunc (W : World) (f : Fn) (a b : Array Value) : Sem.run Try.prog (binOp BinOp.eql 52 (Value.func f a b) Value.nilFunc) W = .ok (.bool false) W := rfl
/-! Drain's loop over the pair: Drain's variable lies at B, the turns' at B + 1, the loop's book-keeping behind. -/
abbrev DS := List Nd × Value × Nat × Int
def bF (B : Nat) (k : Nat) : Prop := k = B + 2 ∨ k = B + 2 + 1
def bxs (B g : Nat) (bx : List (Nat × Obj)) (n : Nat) : List (Nat × Obj) := (B + 1, .cells #[.int .i64 n] 3 (0, 0)) :: (B, .cells #[.pointer (some ⟨g, 0, none⟩)] 23 (0, 0)) :: bx
def sX (w : World) (B g : Nat) (bx : List (Nat × Obj)) (r : Nat) (s : DS) : Nat → Prop := dX w (bF B) (bxs B g bx s.2.2.1) r s.2.1
def sY (w : World) (B g : Nat) (bx : List (Nat × Obj)) (r : Nat) (s : DS) : Nat → Prop := dY w (bxs B g bx s.2.2.1) r s.2.1
def sI (w : World) (B g : Nat) (bx : List (Nat × Obj)) (r : Nat) (P : List Nd → Nat → Int → Prop) (s : DS) (W : World) : Prop := dI w (bF B) (bxs B g bx s.2.2.1) r s.2.1 s.1 W ∧ P s.1 s.2.2.1 s.2.2.2
section
variable {w : World} {B g r : Nat} {bx : List (Nat × Obj)} {P : List Nd → Nat → Int → Prop}
theorem sI_keep (s : DS) (W W' : World) (h : sI w B g bx r P s W) (hk : Keep (sY w B g bx r s) W W') : sI w B g bx r P s W' := ⟨h.1.keep hk, h.2⟩
theorem sI_keepX (s : DS) (W W' : World) (h : sI w B g bx r P s W) (hk : Keep (sX w B g bx r s) W W') : sI w B g bx r P s W' := ⟨h.1.keep (hk.mono (fun _ h => .inl h)), h.2⟩
theorem bxs_far (hbx : ∀ p ∈ bx, p.1 < B) (n : Nat) (p : Nat × Obj) (hp : p ∈ bxs B g bx n) : p.1 ≠ B + 2 ∧ p.1 ≠ B + 2 + 1 := by
  rcases List.mem_cons.1 hp with rfl | hp
  · exact ⟨by show B + 1 ≠ _; omega, by show B + 1 ≠ _; omega⟩
  · rcases List.mem_cons.1 hp with rfl | hp
    · exact ⟨by show B ≠ _; omega, by show B ≠ _; omega⟩
    · have := hbx p hp
      omega
theorem sY_far (hlo : w.heap.size ≤ B) (hbx : ∀ p ∈ bx, p.1 < B) (s : DS) (W : World) (q : Nat) (h : sI w B g bx r P s W) (hq : sY w B g bx r s q) : q ≠ B + 2 ∧ q ≠ B + 2 + 1 :=
  dY_far (F := bF B) (by omega) (by omega) (fun p hp => bxs_far hbx _ p hp) (.inl rfl) (.inr rfl) h.1 q hq
theorem sX_B (s : DS) : sX w B g bx r s B ∧ sX w B g bx r s (B + 2) ∧ sX w B g bx r s (B + 2 + 1) := ⟨.inl (.inr (.inl ⟨_, .tail _ (.head _), rfl⟩)), .inr (.inl rfl), .inr (.inr rfl)⟩
theorem s_toJ {L : List Nd} {n : Nat} {T : Int} {W : World} (h : Pd w (bF B) (bxs B g bx n) g r L L T W) (hP : P L n T) : ∃ vr, DrJ B g (sX w B g bx r) (fun s => s.1) (fun s => s.2.2.2) (sI w B g bx r P) (L, vr, n, T) W := by
  have hB := h.cst _ (.tail _ (.head _))
  obtain ⟨vr, h1, h2⟩ := h.opened
  exact ⟨vr, hB, h1, h2, hP⟩
theorem s_ofM {s : DS} {x : Nd} {W : World} (h : DrM B g (sX w B g bx r) (fun s => s.1) (fun s => s.2.2.2) (sI w B g bx r P) s x W) : Pd w (bF B) (bxs B g bx s.2.2.1) g r (rest s.1) s.1 s.2.2.2 W ∧ P s.1 s.2.2.1 s.2.2.2 ∧ s.1 ≠ [] ∧ x = mn s.1 := by
  obtain ⟨_, h1, h2, h3, h4⟩ := h
  exact ⟨Pd.shut h1 h2.1, h2.2, h3, h4⟩
theorem s_ofD {s : DS} {W : World} (h : DrD B g (sX w B g bx r) (fun s => s.1) (fun s => s.2.2.2) (sI w B g bx r P) s W) : Pd w (bF B) (bxs B g bx s.2.2.1) g r [] [] s.2.2.2 W ∧ P [] s.2.2.1 s.2.2.2 := by
  obtain ⟨⟨_, h1, h2⟩, h3⟩ := h
  have h4 : s.1 = [] := h3
  have h5 := Pd.shut h1 h2.1
  have h6 := h2.2
  rw [h4] at h6
  simp only [h4] at h5
  exact ⟨h5, h6⟩
theorem s_turn {L Q : List Nd} {n : Nat} {T : Int} {W : World} (h : Pd w (bF B) (bxs B g bx n) g r L Q T W) (hlo : w.heap.size ≤ B) (hbx : ∀ p ∈ bx, p.1 < B) :
    Pd w (bF B) (bxs B g bx (n + 1)) g r L Q T (W.setCell ⟨B + 1, 0, none⟩ (.int .i64 ((n : Int) + 1))) ∧ ∀ k, bF B k → (W.setCell ⟨B + 1, 0, none⟩ (.int .i64 ((n : Int) + 1))).heap[k]? = W.heap[k]? := by
  refine ⟨Pd.set (cs := #[.int .i64 n]) (ty := 3) h (fun p hp => ?_) (by omega) 0 _, set_F (F := bF B) (fun hf => by rcases hf with hf | hf <;> omega)⟩
  rcases List.mem_cons.1 hp with rfl | hp
  · show B ≠ B + 1
    omega
  · have := hbx p hp
    omega
/-- The end of a turn. -/
theorem s_post {L : List Nd} {n : Nat} {T : Int} {W W' : World} {Ix : Code → World → Prop} {lt : DS → Prop} (h : Pd w (bF B) (bxs B g bx n) g r L L T W') (hlo : w.heap.size ≤ B) (hbx : ∀ p ∈ bx, p.1 < B) (hP : P L (n + 1) T) (hF : ∀ k, bF B k → W'.heap[k]? = W.heap[k]?) (hlt : ∀ vr, lt (L, vr, n + 1, T)) (a : Act) :
    stPost (B + 2) (B + 2 + 1) (DrJ B g (sX w B g bx r) (fun s => s.1) (fun s => s.2.2.2) (sI w B g bx r P)) Ix lt W .normal a (W'.setCell ⟨B + 1, 0, none⟩ (.int .i64 ((n : Int) + 1))) := by
  obtain ⟨h1, h2⟩ := s_turn h hlo hbx
  obtain ⟨vr, h3⟩ := s_toJ h1 hP
  exact ⟨⟨_, hlt vr, h3⟩, (h2 _ (.inl rfl)).trans (hF _ (.inl rfl)), (h2 _ (.inr rfl)).trans (hF _ (.inr rfl))⟩
/-- Behind the making of Drain's variable and the turns'. -/
theorem s_start {L : List Nd} {T : Int} {W : World} (h : Pd w (fun _ => False) bx g r L L T W) (hs : W.heap.size = B) (hP : P L 0 T) :
    ∃ vr, ∀ o o', DrJ B g (sX w B g bx r) (fun s => s.1) (fun s => s.2.2.2) (sI w B g bx r P) (L, vr, 0, T) ((((W.alloc (.cells #[.pointer (some ⟨g, 0, none⟩)] 23)).alloc (.cells #[.int .i64 0] 3)).alloc o).alloc o') := by
  have h1 := (h.alloc (.cells #[.pointer (some ⟨g, 0, none⟩)] 23)).alloc (.cells #[.int .i64 0] 3)
  simp only [World.size_alloc, hs] at h1
  obtain ⟨W0, hW0⟩ : ∃ W0, W0 = (W.alloc (.cells #[.pointer (some ⟨g, 0, none⟩)] 23)).alloc (.cells #[.int .i64 0] 3) := ⟨_, rfl⟩
  have hs0 : W0.heap.size = B + 2 := by rw [hW0]; simp [hs]
  rw [← hW0] at h1 ⊢
  have hB := h1.cst _ (.tail _ (.head _))
  obtain ⟨vr, hH, hI⟩ := h1.opened
  refine ⟨vr, fun o o' => ⟨blk_alloc (blk_alloc hB o) o', ?_, ?_, hP⟩⟩
  · refine ((hH.mono (fun k hk => ?_)).alloc o).alloc o'
    rcases hk with hk | hk | hk
    · exact .inl (.inl hk)
    · exact .inr (by omega)
    · exact .inr (by omega)
  · have hk2 : Keep (dY w (bxs B g bx 0) r vr) W0 ((W0.alloc o).alloc o') := Keep.of_below (below_alloc (below_alloc (Below.refl _ _) o) o')
    have h2 := hI.keep hk2
    refine ⟨h2.cst, fun k hk => ?_, h2.ref, fun k hk => ⟨(h2.rs k hk).1, fun hf => ?_, (h2.rs k hk).2.2⟩, h2.bel⟩
    · simp only [World.size_alloc, hs0]
      rcases hk with rfl | rfl <;> omega
    · have := hI.ref.lt hk
      rcases hf with rfl | rfl <;> omega
/-- The answer written; what comes of it behind the loop. -/
theorem s_end {L Q : List Nd} {n q : Nat} {T : Int} {W : World} (h : Pd w (bF B) (bxs B g bx n) g r L Q T W) (hq : (q, Obj.cells #[.bool false] 4 (0, 0)) ∈ bx) (hlo : w.heap.size ≤ B) (hbx : ∀ p ∈ bx, p.1 < B) (hw : w.heap.size ≤ q) (hK : W.heap[B + 2]? = some (.deferred (some []))) :
    (W.setCell ⟨q, 0, none⟩ (.bool true)).heap[B + 2]? = some (.deferred (some [])) ∧ ((W.setCell ⟨q, 0, none⟩ (.bool true)).putObj (B + 2) (.deferred none)).cell? ⟨q, 0, none⟩ = some (.bool true) ∧ Below w.heap.size w ((W.setCell ⟨q, 0, none⟩ (.bool true)).putObj (B + 2) (.deferred none)) := by
  have hqB := hbx _ hq
  have h1 := h.cst _ (.tail _ (.tail _ hq))
  have hs := blk_set h1 0 (.bool true)
  have hb : Below w.heap.size w (W.setCell ⟨q, 0, none⟩ (.bool true)) := h.bel.setCell (p := ⟨q, 0, none⟩) hw _
  refine ⟨(Below.heap_setCell W ⟨q, 0, none⟩ _ _ (by show B + 2 ≠ q; have : q < B := hqB; omega)).trans hK, blk_cell ((World.putObj_heap_other (by have : q < B := hqB; omega)).trans hs) 0, ?_⟩
  exact hb.grown (grownBy_putObj' _ _ _) hb.size (fun k e => by cases e; omega)
end
end Go.Proofs.Ytekcpcipbccodaa.Mem
