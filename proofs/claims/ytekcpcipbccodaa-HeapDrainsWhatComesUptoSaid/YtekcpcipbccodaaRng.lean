/- A range over an iterator whose state lies in memory that the body may turn too: the law over a ghost state. -/
import Derived.Test.YtekcpcipbccodaaMem
import Derived.RangeFuncNested
import Derived.RangeFuncBound
import Derived.RangeFuncCalls
import Derived.RangeFuncLeaves
import Derived.OwnWalkIn
import Derived.TacticsInMore
import Derived.LoopNIn
import Derived.LoopIn
import Derived.Shelf.Abstract
import Derived.Deep.AppendLies
namespace Go.Proofs.Ytekcpcipbccodaa.Mem
open Go Go.RowKit Go.Shelf Go.Proofs.YtekcpcipbccodaaW.PrintWords Go.Proofs.YtekcpcipbccodaaW.PrintLast Go.Proofs.YtekcpcipbccodaaW.PrintMore
set_option linter.unusedVariables false

/-- What a step may have changed: no block of X. -/
structure Keep (X : Nat → Prop) (w w' : World) : Prop where
  os : w'.os = w.os
  tape : w'.tape = w.tape
  output : w'.output = w.output
  size : w.heap.size ≤ w'.heap.size
  block : ∀ k, X k → k < w.heap.size → w'.heap[k]? = w.heap[k]?
theorem Keep.refl (X : Nat → Prop) (w : World) : Keep X w w := ⟨rfl, rfl, rfl, Nat.le_refl _, fun _ _ _ => rfl⟩
theorem Keep.trans {X : Nat → Prop} {w w1 w2 : World} (h : Keep X w w1) (h2 : Keep X w1 w2) : Keep X w w2 :=
  ⟨h2.os.trans h.os, h2.tape.trans h.tape, h2.output.trans h.output, Nat.le_trans h.size h2.size, fun k hx hk => (h2.block k hx (Nat.lt_of_lt_of_le hk h.size)).trans (h.block k hx hk)⟩
theorem Keep.mono {X Y : Nat → Prop} {w w1 : World} (h : Keep X w w1) (hs : ∀ k, Y k → X k) : Keep Y w w1 := ⟨h.os, h.tape, h.output, h.size, fun k hx hk => h.block k (hs k hx) hk⟩
theorem Keep.of_frm {S X : Nat → Prop} {w w1 : World} (h : Frm S w w1) (hs : ∀ k, S k → ¬ X k) : Keep X w w1 := ⟨h.os, h.tape, h.output, h.size, fun k hx hk => h.block k hk (fun h2 => hs k h2 hx)⟩
theorem Keep.below {X : Nat → Prop} {B : Nat} {w w1 : World} (h : Keep X w w1) (hX : ∀ k, k < B → X k) (hB : B ≤ w.heap.size) : Below B w w1 := ⟨h.os, h.tape, h.output, h.size, fun k hk => h.block k (hX k hk) (by omega)⟩
theorem Keep.blk {X : Nat → Prop} {w w1 : World} {k : Nat} {o : Obj} (h : Keep X w w1) (hk : w.heap[k]? = some o) (hx : X k) : w1.heap[k]? = some o := (h.block k hx (blk_lt hk)).trans hk

/-- How the body of a round may be left. -/
def stPost {σ : Type} (D l : Nat) (J : σ → World → Prop) (Ix : Code → World → Prop) (lt : σ → Prop) (W : World) : Exit → Act → World → Prop
  | .normal, _, W' => (∃ s', lt s' ∧ J s' W') ∧ W'.heap[D]? = W.heap[D]? ∧ W'.heap[l]? = W.heap[l]?
  | .ret, _, W' => Ix .ret W' ∧ W'.heap[D]? = W.heap[D]? ∧ W'.heap[l]? = W.heap[l]?
  | .exit id, _, W' => Ix (.exit id) W' ∧ W'.heap[D]? = W.heap[D]? ∧ W'.heap[l]? = W.heap[l]?
  | .goto t, _, W' => Ix (.goto t) W' ∧ W'.heap[D]? = W.heap[D]? ∧ W'.heap[l]? = W.heap[l]?
  | .panic _, _, _ => False
  | .outgrown, _, _ => False

variable {F : Fence} {n : Nat} {P : Program}

/-- The iterator's contract, over a ghost state: between two rounds J; a value x has been fetched: Jm. -/
def SeqSt {σ α : Type} (F : Fence) (n : Nat) (P : Program) (g : Nat) (lb : Array Value) (encs : α → Array Value) (D l : Nat) (J Jd : σ → World → Prop) (Jm : σ → α → World → Prop) (lt : σ → σ → Prop) (s0 : σ) : Prop :=
  ∀ (r0 : Obj) (Jx : World → Prop) (W : World),
    (∀ s x W1, Jm s x W1 → W1.heap[D]? = some (.deferred (some [])) → W1.heap[l]? = some r0 → YieldAt F (n - 1) P l (encs x) W1 fun e W' =>
      (e = .returned (.bool true) ∧ (∃ s', lt s' s ∧ J s' W') ∧ W'.heap[D]? = some (.deferred (some [])) ∧ W'.heap[l]? = some r0) ∨ (e = .returned (.bool false) ∧ Jx W')) →
    J s0 W → W.heap[D]? = some (.deferred (some [])) → W.heap[l]? = some r0 →
    CallsIn F n P g (#[.func (.yield l) #[] #[]] ++ lb) W fun e W' => (∃ v, e = .returned v) ∧ (((∃ s, Jd s W') ∧ W'.heap[D]? = some (.deferred (some [])) ∧ W'.heap[l]? = some r0) ∨ Jx W')

/-- What is said does not hang on the two blocks of book-keeping. -/
def Free (D l : Nat) (I : World → Prop) : Prop := ∀ W k o o', (k = D ∨ k = l) → W.heap[k]? = some o → I W → I (W.putObj k o')

theorem wpIn_range_st {σ α : Type} {g : Operand} {ps : Array Tmp} {assign body : Code} {Q : Exit → Act → World → Prop} {a : Act} {w : World}
    (hro : F.round = none) (h1 : 1 ≤ n) {gf : Nat} {lb : Array Value} (hg : a.eval g = .func (.func gf) #[] lb) (hFg : F.fn gf) (eg : ∀ args w, (callFunc gf args).run P w = .ok (.enter gf args) w)
    {encs : α → Array Value} (J Jd : σ → World → Prop) (Jm : σ → α → World → Prop) (Ix : Code → World → Prop) (lt : σ → σ → Prop) (s0 : σ)
    (hseq : SeqSt F (n - 1) P gf lb encs w.heap.size (w.heap.size + 1) J Jd Jm lt s0) (hps : ∀ x, (encs x).size = ps.size)
    (hJ : ∀ s, Free w.heap.size (w.heap.size + 1) (J s)) (hJd : ∀ s, Free w.heap.size (w.heap.size + 1) (Jd s)) (hJm : ∀ s x, Free w.heap.size (w.heap.size + 1) (Jm s x)) (hIx : ∀ c, Free w.heap.size (w.heap.size + 1) (Ix c))
    (h0 : ∀ o o', J s0 ((w.alloc o).alloc o'))
    (a₁ : α → Act)
    (hassign : ∀ (l : Nat) (x : α) (W : World) (K : Act → World → Prop), K (a₁ x) W →
      assign.wpIn (F.inRound l) (n - 1 - 1) P (Exit.then K (fun _ _ _ => False)) { tmps := (ps.zip (encs x)).foldl (fun t (p, v) => t.setIfInBounds p v) a.tmps, defers := [] } W)
    (hbody : ∀ (s : σ) (x : α) (W : World), Jm s x W → body.wpIn (F.inRound (w.heap.size + 1)) (n - 1 - 1) P (stPost w.heap.size (w.heap.size + 1) J Ix (fun s' => lt s' s) W) (a₁ x) W)
    (hdone : ∀ (s : σ) (W : World), Jd s W → W.heap[w.heap.size]? = some (.deferred (some [])) → Q .normal { a with defers := { target := .collected w.heap.size, args := #[] } :: a.defers } W)
    (hstop : ∀ (c : Code) (W : World), Ix c W → W.heap[w.heap.size]? = some (.deferred (some [])) → c.wpIn F n P Q { a with defers := { target := .collected w.heap.size, args := #[] } :: a.defers } W) :
    (Code.rangeFunc g ps assign body).wpIn F n P Q a w := by
  refine wpIn_rangeFunc ?_
  intro fn hfn
  rw [hro]
  obtain ⟨rec, hrec⟩ : ∃ rec : LoopState → Option Code → Loop, rec = fun st pe => { state := st, pending := pe, fn, tmps := a.tmps, params := ps, assign, body, defers := w.heap.size } := ⟨_, rfl⟩
  obtain ⟨W1, hW1⟩ : ∃ W1, (w.alloc (.deferred (some []))).alloc (.loop (rec .ready none)) = W1 := ⟨_, rfl⟩
  have hL1 : W1.heap[w.heap.size + 1]? = some (.loop (rec .ready none)) := by
    rw [← hW1]; have := World.alloc_heap_new (w.alloc (.deferred (some []))) (.loop (rec .ready none)); rwa [World.size_alloc] at this
  have hK1 : W1.heap[w.heap.size]? = some (.deferred (some [])) := by
    rw [← hW1]; exact (Below.heap_alloc _ _ _ (by simp)).trans (World.alloc_heap_new w _)
  have hI1 : J s0 W1 := by rw [← hW1]; exact h0 _ _
  refine ⟨w.heap.size + 1, [{ target := .collected w.heap.size, args := #[] }], W1, { target := .fn (.func gf) lb, args := #[.func (.yield (w.heap.size + 1)) #[] #[]] }, W1, gf,
    #[.func (.yield (w.heap.size + 1)) #[] #[]] ++ lb, W1, ?_, ?_, ?_, ?_, fun _ => h1, ?_⟩
  · rw [← hW1, hrec]; exact run_enterLoop_outer _ _ _ _ _
  · simp only [resolve, hg]
    simp [go_sem]
  · intro f' hf'; simp [Target.leads] at hf'; subst hf'; exact hFg
  · simp [invoke, go_sem, eg]
  · refine (hseq (.loop (rec .ready none))
      (fun W => ∃ c, Ix c W ∧ W.heap[w.heap.size + 1]? = some (.loop (rec .done (some c))) ∧ W.heap[w.heap.size]? = some (.deferred (some [])))
      W1 ?_ hI1 hK1 hL1).mono ?_
    · -- one round
      intro s x W hi hk hl
      have hlt : w.heap.size + 1 < W.heap.size := (Array.getElem?_eq_some_iff.1 hl).1
      have hy := run_yield (P := P) (args := encs x) hl (by rw [hrec]; exact hps x)
      rw [hrec] at hy
      refine ⟨fn, _, assign, body, hy, roundIn_of_wpIn hfn (hassign _ x W _ ⟨_, run_beginRound hl (by rw [hrec]), ?_⟩)⟩
      have hl2 : (W.putObj (w.heap.size + 1) (.loop { rec .ready none with state := .busy })).heap[w.heap.size + 1]? = some (.loop { rec .ready none with state := .busy }) := World.putObj_heap_same hlt
      have hk2 : (W.putObj (w.heap.size + 1) (.loop { rec .ready none with state := .busy })).heap[w.heap.size]? = some (.deferred (some [])) := (World.putObj_heap_other (by omega)).trans hk
      refine wpIn_mono (hbody s x _ (hJm s x _ _ _ _ (.inr rfl) hl hi)) ?_
      have fin : ∀ (jump : Option Code) (W3 : World), W3.heap[w.heap.size + 1]? = some (.loop { rec .ready none with state := .busy }) → W3.heap[w.heap.size]? = some (.deferred (some [])) →
          (Instr.endRound (w.heap.size + 1) jump).run P W3 = .ok (.bool jump.isNone) (W3.putObj (w.heap.size + 1) (.loop (rec (if jump.isNone then .ready else .done) jump))) ∧
          (W3.putObj (w.heap.size + 1) (.loop (rec (if jump.isNone then .ready else .done) jump))).heap[w.heap.size + 1]? = some (.loop (rec (if jump.isNone then .ready else .done) jump)) ∧
          (W3.putObj (w.heap.size + 1) (.loop (rec (if jump.isNone then .ready else .done) jump))).heap[w.heap.size]? = some (.deferred (some [])) := fun jump W3 hl3 hk3 => by
        have := run_endRound (P := P) jump hl3
        rw [hrec] at this ⊢
        exact ⟨this, World.putObj_heap_same (Array.getElem?_eq_some_iff.1 hl3).1, (World.putObj_heap_other (by omega)).trans hk3⟩
      rintro e a3 W3 hp
      cases e with
      | normal =>
        obtain ⟨⟨s', hs', hi3⟩, hd3, hl3⟩ := hp
        replace hl3 := hl3.trans hl2
        obtain ⟨hr, hl4, hk4⟩ := fin none W3 hl3 (hd3.trans hk2)
        exact ⟨_, _, hr, .inl ⟨rfl, ⟨s', hs', hJ s' _ _ _ _ (.inr rfl) hl3 hi3⟩, hk4, hl4⟩⟩
      | ret =>
        obtain ⟨hi3, hd3, hl3⟩ := hp
        replace hl3 := hl3.trans hl2
        obtain ⟨hr, hl4, hk4⟩ := fin (some .ret) W3 hl3 (hd3.trans hk2)
        exact ⟨_, _, hr, .inr ⟨rfl, .ret, hIx _ _ _ _ _ (.inr rfl) hl3 hi3, hl4, hk4⟩⟩
      | exit id =>
        obtain ⟨hi3, hd3, hl3⟩ := hp
        replace hl3 := hl3.trans hl2
        obtain ⟨hr, hl4, hk4⟩ := fin (some (.exit id)) W3 hl3 (hd3.trans hk2)
        exact ⟨_, _, hr, .inr ⟨rfl, .exit id, hIx _ _ _ _ _ (.inr rfl) hl3 hi3, hl4, hk4⟩⟩
      | goto t =>
        obtain ⟨hi3, hd3, hl3⟩ := hp
        replace hl3 := hl3.trans hl2
        obtain ⟨hr, hl4, hk4⟩ := fin (some (.goto t)) W3 hl3 (hd3.trans hk2)
        exact ⟨_, _, hr, .inr ⟨rfl, .goto t, hIx _ _ _ _ _ (.inr rfl) hl3 hi3, hl4, hk4⟩⟩
      | panic ch => exact hp.elim
      | outgrown => exact hp.elim
    · -- behind the iterator
      rintro e W2 ⟨⟨v, rfl⟩, (⟨⟨s, hi⟩, hk, hl⟩ | ⟨c, hi, hl, hk⟩)⟩
      · exact ⟨none, _, by have := run_endLoop (P := P) hl (by rw [hrec]; simp); rw [hrec] at this; exact this, hdone s _ (hJd s _ _ _ _ (.inr rfl) hl hi) ((World.putObj_heap_other (by omega)).trans hk)⟩
      · exact ⟨some c, _, by have := run_endLoop (P := P) hl (by rw [hrec]; simp); rw [hrec] at this; exact this, hstop c _ (hIx c _ _ _ _ (.inr rfl) hl hi) ((World.putObj_heap_other (by omega)).trans hk)⟩

/-- append, and where the new slice lies, inside a fence. -/
theorem wpListIn_append_lies {F : Fence} {n : Nat} {P : Program} (w : World) {ops : Array Oper} {rest : List Oper} {o : Oper} {a : Act} {Q : Exit → Act → World → Prop}
    (hgd : o.guard = none) (s x : Operand) (t : TypeId) (hop : o.op = Op.call { callee := Callee.builtin Builtin.append, args := #[s, x], argTypes := #[t, t] })
    (base : Nat) (e : TypeId) (i : TypeInfo) (z : Value) (size bytes : Nat) (ht : P.underlying t = some (.slice e)) (hi : P.info? e = some i) (hz : i.zero = some z)
    (hsize : i.size = size) (hby : i.bytes = bytes) (hzs : z.cells.size = size) (hsz : 0 < size)
    (v : Value) (k : Nat) (xs : List Value) (hs : a.eval s = v) (hown : w.ownsRow base e size v k xs)
    (ad : Addr) (m c : Nat) (news : List Value) (hx : a.eval x = .slice (some ad) m c) (hl : news.length = m * size) (hnews : ∀ j u, news[j]? = some u → w.cell? (ad.add j) = some u) (h1 : ∀ u ∈ news, u.oneCell' = true)
    (hm : 0 < m) (h63 : k + m ≤ maxLen) (hbytes : (k + m) * bytes ≤ 140737488355328) (hbase : base ≤ w.heap.size) (H : Nat) (hH : w.heap.size = H)
    (hK : ∀ g cap w', w'.ownsRow base e size (.slice (some ⟨g, 0, none⟩) (k + m) cap) (k + m) (xs ++ news) → w.grownBy w' v.ownBlock → (v.ownBlock = some g ∨ g = H) → g < w'.heap.size → wpListIn F n P ops Q rest (a.put o.dst (.slice (some ⟨g, 0, none⟩) (k + m) cap)) w') :
    wpListIn F n P ops Q (o :: rest) a w := by
  refine wpListIn_plain hgd fun K hK' => ?_
  obtain ⟨g, cap, w', hr, h2, h3, h4, h5⟩ := run_append_lies (P := P) w t o.type base e i z size bytes ht hi hz hsize hby hzs hsz v k xs hown ad m c news hl hnews h1 hm h63 hbytes hbase H hH
  unfold Oper.wpIn
  refine ⟨?_, ?_⟩
  · simp [Oper.about, hop, resolve, Target.leads, Sem.run_pure]
  · rw [Oper.semAt_plain F _ _ (by rw [hop]; intro c hc'; cases hc')]
    simp [execOp, hop, resolve, invoke, builtin, hs, hx, hr, Result.andThen]
    exact hK' _ _ (hK g cap w' h2 h3 h4 h5)
end Go.Proofs.Ytekcpcipbccodaa.Mem
