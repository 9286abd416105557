/- The heap of ints: what it holds, in the order of putting in; its calls; Drain. -/
import Derived.Test.YtekcpcipbccodaaHpU
import Derived.Test.YtekcpcipbccodaaRng
namespace Go.Proofs.Ytekcpcipbccodaa.Mem
open Go.RowKit Go.Proofs.YtekcpcipbccodaaW.PrintWords Go.Proofs.YtekcpcipbccodaaW.PrintLast Go.Proofs.YtekcpcipbccodaaW.PrintMore
attribute [local go_sem] Oper.semAt_some
set_option linter.unusedVariables false
set_option linter.unusedSimpArgs false

/-- The place of the first, the first, and what is left. -/
def mnI (L : List Nd) : Nat := (fst (L.map toIt)).toNat
def mn (L : List Nd) : Nd := L[mnI L]!
def rest (L : List Nd) : List Nd := L.eraseIdx (mnI L)
theorem mnI_lt {L : List Nd} (h : L ≠ []) : mnI L < L.length := by
  obtain ⟨m, hm, hl, _⟩ := fst_spec (L.map toIt) (by simpa using h)
  unfold mnI
  rw [hm]
  simpa using hl
theorem rest_len {L : List Nd} (h : L ≠ []) : (rest L).length + 1 = L.length := by
  have := mnI_lt h
  unfold rest
  rw [List.length_eraseIdx_of_lt this]
  omega
/-- The heap at g holds L (the next turn is t); it leaves the blocks X alone. -/
def HpX (X : Nat → Prop) (W : World) (g : Nat) (L : List Nd) (t : Int) : Prop := ∃ v l, HpI W g v l t ∧ Holds l L t ∧ ∀ k, foot g v k → ¬ X k
theorem HpI.lt {W : World} {g : Nat} {v : Value} {l : List Nd} {t : Int} (h : HpI W g v l t) {k : Nat} (hk : foot g v k) : k < W.heap.size := by
  rcases hk with rfl | hk
  · exact blk_lt h.1
  · rcases h.2.2 with ⟨rfl, _⟩ | ⟨b, cap, cur, rfl, _, hb, _⟩
    · simp [Value.ownBlock] at hk
    · obtain rfl : b = k := by simpa [Value.ownBlock] using hk
      exact blk_lt hb
section
variable {X Y : Nat → Prop} {W W1 : World} {g : Nat} {L : List Nd} {t : Int}
theorem HpX.mono (h : HpX X W g L t) (hs : ∀ k, Y k → X k ∨ W.heap.size ≤ k) : HpX Y W g L t := by
  obtain ⟨v, l, hI, hH, hX⟩ := h
  exact ⟨v, l, hI, hH, fun k hk hy => (hs k hy).elim (hX k hk) (fun h2 => by have := hI.lt hk; omega)⟩
/-- A step that turns blocks of X alone (and new ones). -/
theorem HpX.frm {S : Nat → Prop} (h : HpX X W g L t) (hF : Frm S W W1) (hs : ∀ k, S k → X k ∨ W.heap.size ≤ k) : HpX X W1 g L t := by
  obtain ⟨v, l, hI, hH, hX⟩ := h
  exact ⟨v, l, hI.frm hF (fun k hk hS => (hs k hS).elim (hX k hk) (fun h2 => by have := hI.lt hk; omega)), hH, hX⟩
theorem HpX.below (h : HpX X W g L t) (hb : Below W.heap.size W W1) : HpX X W1 g L t := h.frm (Frm.of_below hb (fun _ => False)) (fun _ h => h.elim)
theorem HpX.drewN (h : HpX X W g L t) (n : Nat) : HpX X (W.drewN n) g L t := h.below (pw_below_drewN (Below.refl _ _) n)
theorem HpX.drew (h : HpX X W g L t) : HpX X W.drew g L t := h.below (below_drew1 (Below.refl _ _))
theorem HpX.alloc (h : HpX X W g L t) (o : Obj) : HpX X (W.alloc o) g L t := h.below (below_alloc (Below.refl _ _) o)
theorem HpX.putObj (h : HpX X W g L t) {k : Nat} (hk : X k) (o : Obj) : HpX X (W.putObj k o) g L t :=
  h.frm (S := fun q => q = k) ⟨rfl, rfl, rfl, by simp, fun q _ hq => World.putObj_heap_other hq⟩ (fun q hq => .inl (hq ▸ hk))
theorem HpX.setCell (h : HpX X W g L t) {p : Addr} (hp : X p.block) (u : Value) : HpX X (W.setCell p u) g L t := h.frm ((Frm.refl (fun k => k = p.block) W).setCell (.inl rfl) u) (fun q hq => .inl (hq ▸ hp))
theorem HpX.glt (h : HpX X W g L t) : g < W.heap.size := by
  obtain ⟨v, l, hI, _⟩ := h
  exact blk_lt hI.1
end
theorem Keep.drewN {X : Nat → Prop} {w w1 : World} (h : Keep X w w1) (n : Nat) : Keep X w (w1.drewN n) := ⟨h.os, h.tape, h.output, h.size, h.block⟩
theorem Keep.of_below {X : Nat → Prop} {w w1 : World} (h : Below w.heap.size w w1) : Keep X w w1 := ⟨h.os, h.tape, h.output, h.size, fun k _ hk => h.block k hk⟩
theorem popX (w : World) (X : Nat → Prop) (g : Nat) (L : List Nd) (t : Int) (h : HpX X w g L t) (hL : L ≠ []) (hl : L.length * 24 ≤ 140737488355328) :
    Calls Try.prog 34 #[.pointer (some ⟨g, 0, none⟩)] w fun e w' => e = .returned (.tuple #[.int .i64 (mn L).key, .int .i64 (mn L).val, .bool true]) ∧ HpX X w' g (rest L) t ∧ Keep X w w' := by
  obtain ⟨v, l, hI, hH, hX⟩ := h
  have hll : l.length = L.length := hH.perm.length_eq
  obtain ⟨x, l, rfl⟩ : ∃ x l', l = x :: l' := List.exists_cons_of_ne_nil (fun e => hL (List.eq_nil_of_length_eq_zero (by rw [← hll, e]; rfl)))
  obtain ⟨m, hm, hx, hH'⟩ := hH.pop
  have e1 : mnI L = m := by unfold mnI; rw [hm]; rfl
  have e2 : mn L = x := by unfold mn; rw [e1, bang, hx]; rfl
  refine (pop_some w g v x l t hI (by simp at hll; omega)).mono ?_
  rintro e w' ⟨v', he, hI', hv, hF⟩
  have hfoot : ∀ k, foot g v' k → foot g v k := fun k hk => hk.imp id (fun h => by rw [← hv]; exact h)
  exact ⟨by rw [e2]; exact he, ⟨v', _, hI', by unfold rest; rw [e1]; exact hH', fun k hk => hX k (hfoot k hk)⟩, Keep.of_frm hF hX⟩
theorem popX_none (w : World) (X : Nat → Prop) (g : Nat) (t : Int) (h : HpX X w g [] t) : Calls Try.prog 34 #[.pointer (some ⟨g, 0, none⟩)] w fun e w' => e = .returned (.tuple #[.int .i64 0, .int .i64 0, .bool false]) ∧ Drawn0 w w' := by
  obtain ⟨v, l, hI, hH, hX⟩ := h
  obtain rfl : l = [] := List.eq_nil_of_length_eq_zero hH.perm.length_eq
  exact pop_empty w g v t hI
theorem pushX (w : World) (X : Nat → Prop) (g : Nat) (L : List Nd) (t key val : Int) (h : HpX X w g L t) (hX : ∀ k, X k → k < w.heap.size) (ht0 : 0 ≤ t) (ht1 : t < 4611686018427387904) (hl : (L.length + 1) * 24 ≤ 140737488355328) :
    Calls Try.prog 29 #[.pointer (some ⟨g, 0, none⟩), .int .i64 key, .int .i64 val] w fun e w' => e = .returned (.tuple #[]) ∧ HpX X w' g (L ++ [⟨key, t, val⟩]) (t + 1) ∧ Keep X w w' := by
  obtain ⟨v, l, hI, hH, hX2⟩ := h
  have hll : l.length = L.length := hH.perm.length_eq
  refine (push_calls w g v l t key val hI ht0 ht1 (by omega)).mono ?_
  rintro e w' ⟨v', he, hI', hv, hF⟩
  refine ⟨he, ⟨v', _, hI', hH.push key val, fun k hk hx => ?_⟩, Keep.of_frm hF hX2⟩
  rcases hk with hk | hk
  · exact hX2 k (.inl hk) hx
  · rcases hv with hv | ⟨b, hv, hge⟩
    · exact hX2 k (.inr (by rw [← hv]; exact hk)) hx
    · have := hX k hx
      rw [hv] at hk
      injection hk with hk
      omega
theorem newX (w : World) (X : Nat → Prop) (hX : ∀ k, X k → k < w.heap.size) : Calls Try.prog 15 #[] w fun e w' => ∃ g, e = .returned (.pointer (some ⟨g, 0, none⟩)) ∧ w.heap.size ≤ g ∧ HpX X w' g [] 0 ∧ Below w.heap.size w w' :=
  (new_calls w).mono fun e w' ⟨g, he, hg, hI, hb⟩ => ⟨g, he, hg, ⟨_, _, hI, Holds.nil 0, fun k hk hx => by
    have := hX k hx
    rcases hk with hk | hk
    · omega
    · simp [Value.ownBlock] at hk⟩, hb⟩
theorem lenX (w : World) (X : Nat → Prop) (g : Nat) (L : List Nd) (t : Int) (h : HpX X w g L t) : Calls Try.prog 18 #[.pointer (some ⟨g, 0, none⟩)] w fun e w' => e = .returned (.int .i64 L.length) ∧ Drawn0 w w' := by
  obtain ⟨v, l, hI, hH, hX⟩ := h
  have hll : l.length = L.length := hH.perm.length_eq
  rw [← hll]
  exact len_calls w g v l t hI
theorem drain_calls (w : World) (p : Option Addr) : Calls Try.prog 31 #[.pointer p] w fun e w' => e = .returned (.func (.func 53) #[] #[.pointer (some ⟨w.heap.size, 0, none⟩)]) ∧ w' = w.alloc (.cells #[.pointer p] 23) := by
  go_enter Try.func31, Try.ntmps31
  go_wp2
  go_ret
  exact ⟨rfl, rfl⟩

/-- What Drain's loop is in between two rounds, and with a value fetched. -/
def DrJ {σ : Type} (B g : Nat) (X : σ → Nat → Prop) (L : σ → List Nd) (T : σ → Int) (I : σ → World → Prop) (s : σ) (W : World) : Prop :=
  W.heap[B]? = some (.cells #[.pointer (some ⟨g, 0, none⟩)] 23 (0, 0)) ∧ HpX (X s) W g (L s) (T s) ∧ I s W
def DrD {σ : Type} (B g : Nat) (X : σ → Nat → Prop) (L : σ → List Nd) (T : σ → Int) (I : σ → World → Prop) (s : σ) (W : World) : Prop := DrJ B g X L T I s W ∧ L s = []
def DrM {σ : Type} (B g : Nat) (X : σ → Nat → Prop) (L : σ → List Nd) (T : σ → Int) (I : σ → World → Prop) (s : σ) (x : Nd) (W : World) : Prop :=
  W.heap[B]? = some (.cells #[.pointer (some ⟨g, 0, none⟩)] 23 (0, 0)) ∧ HpX (X s) W g (rest (L s)) (T s) ∧ I s W ∧ L s ≠ [] ∧ x = mn (L s)
set_option maxHeartbeats 4000000 in
theorem drain_st {σ : Type} (n B g D l : Nat) (X : σ → Nat → Prop) (L : σ → List Nd) (T : σ → Int) (I : σ → World → Prop) (μ : σ → Nat) (s0 : σ)
    (hXB : ∀ s, X s B ∧ X s D ∧ X s l) (hI : ∀ s W W', I s W → Keep (X s) W W' → I s W') (hl : ∀ s W, I s W → (L s).length * 24 ≤ 140737488355328) :
    SeqSt Fence.wide n Try.prog 53 #[.pointer (some ⟨B, 0, none⟩)] (fun x : Nd => #[.int .i64 x.key, .int .i64 x.val]) D l (DrJ B g X L T I) (DrD B g X L T I) (DrM B g X L T I) (fun s' s => μ s' < μ s) s0 := by
  intro r0 Jx W hY h0 hD hR
  refine callsIn_of_wp Try.func53 rfl trivial ?_ rfl
  simp only [Try.ntmps53, List.size_toArray, List.length_cons, List.length_nil, Nat.reduceAdd, Nat.reduceSub, Array.replicate_succ, Array.replicate_zero, List.push_toArray, List.append_toArray, List.nil_append, List.cons_append]
  gi_wp2
  gi_loopw [3, 4, 5] (fun _ _ _ wr => ∃ k s, (DrJ B g X L T I s wr ∧ wr.heap[D]? = some (.deferred (some [])) ∧ wr.heap[l]? = some r0) ∧ μ s ≤ k) (fun _ _ _ wr => leastOf (fun k => ∃ s, (DrJ B g X L T I s wr ∧ wr.heap[D]? = some (.deferred (some [])) ∧ wr.heap[l]? = some r0) ∧ μ s ≤ k))
  case atStart => exact ⟨_, s0, ⟨h0, hD, hR⟩, Nat.le_refl _⟩
  case round =>
    have hsp := leastOf_spec hrel
    clear hrel
    obtain ⟨⟨s, ⟨hJ, hD1, hR1⟩, hk⟩, hleast⟩ := hsp
    obtain ⟨hB, hH, hIs⟩ := hJ
    have hb0 : wr.cell? ⟨B, 0, none⟩ = some (.pointer (some ⟨g, 0, none⟩)) := blk_cell hB 0
    have HL := Aside0.mk hleast
    have HK := Aside0.mk hk
    have HB := Aside0.mk hB
    have HD := Aside0.mk hD1
    have HR := Aside0.mk hR1
    clear hleast hk hB hD1 hR1 hD hR h0
    by_cases hL : L s = []
    · rw [hL] at hH
      gi_wp2_with (first | (refine ⟨trivial, (fun h => by cases h), ?_⟩; refine (callsIn_wide.2 (popX_none _ (X s) _ _ hH)).mono ?_; rintro e w2 ⟨rfl, nn, rfl⟩))
      refine ⟨fun _ h => (by cases h), ?_⟩
      gi_wp2
      refine bodyPost_ret (results_none rfl _ _ _) rfl ?_
      exact ⟨⟨_, rfl⟩, .inl ⟨⟨s, ⟨HB.out, by rw [hL]; exact hH.drewN nn, hI s _ _ hIs ((Keep.refl _ _).drewN nn)⟩, hL⟩, HD.out, HR.out⟩⟩
    · gi_wp2_with (first | (refine ⟨trivial, (fun h => by cases h), ?_⟩; refine (callsIn_wide.2 (popX _ (X s) _ _ _ hH hL (hl s _ hIs))).mono ?_; rintro e w2 ⟨rfl, hH2, hK2⟩; obtain ⟨fn, tmps, assign, body, hy, hRo⟩ := hY s (mn (L s)) w2 ⟨hK2.blk HB.out (hXB s).1, hH2, hI s _ _ hIs hK2, hL, rfl⟩ (hK2.blk HD.out (hXB s).2.1) (hK2.blk HR.out (hXB s).2.2); clear hH2 hK2))
      refine ⟨(fun h => by cases h), hRo.mono ?_⟩
      rintro e W3 (⟨rfl, ⟨s', hlt, hJ3⟩, hD3, hR3⟩ | ⟨rfl, hJx3⟩)
      · gi_wp2
        go_roundw
        case rel => exact ⟨_, s', ⟨hJ3, hD3, hR3⟩, Nat.le_refl _⟩
        case measure =>
          have h5 := (leastOf_spec (p := fun k => ∃ s, (DrJ B g X L T I s W3 ∧ W3.heap[D]? = some (.deferred (some [])) ∧ W3.heap[l]? = some r0) ∧ μ s ≤ k) ⟨_, s', ⟨hJ3, hD3, hR3⟩, Nat.le_refl _⟩).2 (μ s') ⟨s', ⟨hJ3, hD3, hR3⟩, Nat.le_refl _⟩
          exact Nat.lt_of_le_of_lt h5 (Nat.lt_of_lt_of_le hlt HK.out)
      · gi_wp2
        refine bodyPost_ret (results_none rfl _ _ _) rfl ?_
        exact ⟨⟨_, rfl⟩, .inr hJx3⟩
end Go.Proofs.Ytekcpcipbccodaa.Mem
