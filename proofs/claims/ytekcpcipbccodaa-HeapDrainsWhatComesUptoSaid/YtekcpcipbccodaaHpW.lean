/- Two heaps in turns, each beside the document's: a step at one of them. -/
import Derived.Test.YtekcpcipbccodaaHpT
namespace Go.Proofs.Ytekcpcipbccodaa.Mem
open Go.RowKit Go.Proofs.YtekcpcipbccodaaW.PrintWords Go.Proofs.YtekcpcipbccodaaW.PrintLast Go.Proofs.YtekcpcipbccodaaW.PrintMore
set_option linter.unusedVariables false
set_option linter.unusedSimpArgs false

/-- A block of a heap's: its head, or its row. -/
def Ty (W : World) (k : Nat) : Prop := ∃ cs ty, W.heap[k]? = some (.cells cs ty (0, 0)) ∧ (ty = 71 ∨ ty = 89 ∨ ty = 74 ∨ ty = 92)
theorem PrS.typed {S : Nat → Prop} {W : World} {g r : Nat} {L : List Nd} {t : Int} {R : List It} (h : PrS S W g r L t R) : PrS (fun k => S k ∧ Ty W k) W g r L t R := by
  obtain ⟨⟨v, l, h1, h2, h3⟩, ⟨vr, h4, h5⟩⟩ := h
  refine ⟨⟨v, l, h1, h2, fun k hk => ⟨h3 k hk, ?_⟩⟩, ⟨vr, h4, fun k hk => ⟨h5 k hk, ?_⟩⟩⟩
  · obtain ⟨cs, ty, h6, h7⟩ := foot_ty h1 hk
    exact ⟨cs, ty, h6, h7.elim .inl (fun h => .inr (.inl h))⟩
  · obtain ⟨cs, ty, h6, h7⟩ := foot_tyR h4 hk
    exact ⟨cs, ty, h6, .inr (.inr h7)⟩
theorem Ty.not {W : World} {k : Nat} {cs : Array Value} (h : Ty W k) (hk : W.heap[k]? = some (.cells cs 28 (0, 0))) : False := by
  obtain ⟨cs', ty, h1, h2⟩ := h
  rw [hk] at h1
  simp only [Option.some.injEq, Obj.cells.injEq] at h1
  obtain ⟨_, rfl, _⟩ := h1
  rcases h2 with h | h | h | h <;> exact absurd h (by decide)
structure Two (w wr : World) (a r b s : Nat) (La Lb : List Nd) (ta tb : Int) : Prop where
  ex : ∃ S1 S2 : Nat → Prop, PrS S1 wr a r La ta (La.map toIt) ∧ PrS S2 wr b s Lb tb (Lb.map toIt) ∧ (∀ k, S1 k → ¬ S2 k) ∧ (∀ k, S1 k → w.heap.size ≤ k ∧ Ty wr k) ∧ (∀ k, S2 k → w.heap.size ≤ k ∧ Ty wr k)
  bel : Below w.heap.size w wr
section
variable {w wr w1 : World} {a r b s : Nat} {La Lb : List Nd} {ta tb : Int}
theorem Two.swap (h : Two w wr a r b s La Lb ta tb) : Two w wr b s a r Lb La tb ta := by
  obtain ⟨⟨S1, S2, h1, h2, h3, h4, h5⟩, hb⟩ := h
  exact ⟨⟨S2, S1, h2, h1, fun k hk hk2 => h3 k hk2 hk, h5, h4⟩, hb⟩
theorem Ty.below {k : Nat} (h : Ty wr k) (hb : Below wr.heap.size wr w1) : Ty w1 k := by
  obtain ⟨cs, ty, h1, h2⟩ := h
  exact ⟨cs, ty, (hb.block k (blk_lt h1)).trans h1, h2⟩
theorem Ty.lt {k : Nat} (h : Ty wr k) : k < wr.heap.size := by
  obtain ⟨cs, ty, h1, h2⟩ := h
  exact blk_lt h1
theorem Two.below (h : Two w wr a r b s La Lb ta tb) (hb : Below wr.heap.size wr w1) : Two w w1 a r b s La Lb ta tb := by
  obtain ⟨⟨S1, S2, h1, h2, h3, h4, h5⟩, hw⟩ := h
  exact ⟨⟨S1, S2, h1.below hb, h2.below hb, h3, fun k hk => ⟨(h4 k hk).1, (h4 k hk).2.below hb⟩, fun k hk => ⟨(h5 k hk).1, (h5 k hk).2.below hb⟩⟩, below_step hw hb⟩
theorem Two.alloc (h : Two w wr a r b s La Lb ta tb) (o : Obj) : Two w (wr.alloc o) a r b s La Lb ta tb := h.below (below_alloc (Below.refl _ _) o)
theorem Two.drewN (h : Two w wr a r b s La Lb ta tb) (n : Nat) : Two w (wr.drewN n) a r b s La Lb ta tb := h.below (pw_below_drewN (Below.refl _ _) n)
theorem two_step (kind key val : Int) (two : Bool) (h : Two w wr a r b s La Lb ta tb) (ht0 : 0 ≤ ta) (ht1 : ta < 4611686018427387904) (hl : (La.length + 1) * 24 ≤ 140737488355328) :
    Calls Try.prog 17 #[.pointer (some ⟨a, 0, none⟩), .pointer (some ⟨r, 0, none⟩), .agg #[.int .i64 kind, .int .i64 key, .int .i64 val, .bool two]] wr fun e w' => e = .returned (.bool true) ∧ Two w w' a r b s (stepL kind key val La ta) Lb (stepT kind ta) tb ∧
      ∀ (bl : Nat) (cs : Array Value), wr.heap[bl]? = some (Obj.cells cs 28 (0, 0)) → w'.heap[bl]? = some (Obj.cells cs 28 (0, 0)) := by
  obtain ⟨⟨S1, S2, h1, h2, h3, h4, h5⟩, hw⟩ := h
  refine (step_calls wr S1 a r La ta kind key val two h1 (fun k hk => (h4 k hk).2.lt) ht0 ht1 hl).mono ?_
  rintro e w' ⟨he, hp, hF⟩
  have hsz := hw.size
  refine ⟨he, ⟨⟨_, S2, hp.typed, h2.frm hF (fun k hk hk2 => h3 k hk2 hk), ?_, ?_, ?_⟩, ?_⟩, fun bl cs hbl => hF.blk hbl (fun hs => (h4 bl hs).2.not hbl)⟩
  · rintro k ⟨hk | hk, _⟩ hk2
    · exact h3 k hk hk2
    · have := (h5 k hk2).2.lt
      omega
  · rintro k ⟨hk | hk, hT⟩
    · exact ⟨(h4 k hk).1, hT⟩
    · exact ⟨by omega, hT⟩
  · intro k hk
    obtain ⟨cs, ty, h6, h7⟩ := (h5 k hk).2
    exact ⟨(h5 k hk).1, cs, ty, hF.blk h6 (fun hs => h3 k hs hk), h7⟩
  · exact hw.trans (hF.to_below hsz (fun k hk => (h4 k hk).1))
theorem two_len (h : Two w wr a r b s La Lb ta tb) : Calls Try.prog 18 #[.pointer (some ⟨a, 0, none⟩)] wr fun e w' => e = .returned (.int .i64 La.length) ∧ Drawn0 wr w' := by
  obtain ⟨⟨S1, S2, h1, _⟩, _⟩ := h
  exact prs_len h1
end
theorem stepL_len {kind key val : Int} {L : List Nd} {t : Int} : (stepL kind key val L t).length ≤ L.length + 1 := by
  unfold stepL
  split
  · simp
  · split
    · unfold rest
      have := List.length_eraseIdx_le L (mnI L)
      omega
    · omega
theorem stepL_pop {L : List Nd} {t : Int} (key val : Int) : (stepL 2 key val L t).length = L.length - 1 := by
  unfold stepL
  rw [if_neg (by omega), if_pos rfl]
  by_cases h : L = []
  · subst h; rfl
  · have := rest_len h; omega
theorem stepT_le {kind t : Int} : t ≤ stepT kind t ∧ stepT kind t ≤ t + 1 := by
  unfold stepT
  split <;> omega
/-- The four at the start. -/
theorem two_start {w w1 w2 w3 w4 : World} {a b r s : Nat} (ha : w.heap.size ≤ a) (h1 : HpI w1 a (.slice none 0 0) [] 0) (b1 : Below w.heap.size w w1) (hb : w1.heap.size ≤ b) (h2 : HpI w2 b (.slice none 0 0) [] 0) (b2 : Below w1.heap.size w1 w2)
    (hr : w2.heap.size ≤ r) (h3 : HpR w3 r (.slice none 0 0) []) (b3 : Below w2.heap.size w2 w3) (hs : w3.heap.size ≤ s) (h4 : HpR w4 s (.slice none 0 0) []) (b4 : Below w3.heap.size w3 w4) : Two w w4 a r b s [] [] 0 0 := by
  have la := blk_lt h1.1
  have lb := blk_lt h2.1
  have lr := blk_lt h3.1
  have z2 := b2.size
  have z3 := b3.size
  have z4 := b4.size
  have z1 := b1.size
  have f12 := Frm.of_below b2 (fun _ => False)
  have f23 := Frm.of_below b3 (fun _ => False)
  have f34 := Frm.of_below b4 (fun _ => False)
  have no : ∀ {g : Nat} {k : Nat}, foot g (.slice none 0 0) k → k = g := fun h => h.elim id (fun h => by simp [Value.ownBlock] at h)
  have g1 := ((h1.frm f12 (fun _ _ h => h)).frm f23 (fun _ _ h => h)).frm f34 (fun _ _ h => h)
  have g2 := (h2.frm f23 (fun _ _ h => h)).frm f34 (fun _ _ h => h)
  have g3 := h3.frm f34 (fun _ _ h => h)
  refine ⟨⟨fun k => k = a ∨ k = r, fun k => k = b ∨ k = s, ⟨⟨_, [], g1, Holds.nil 0, fun k hk => .inl (no hk)⟩, ⟨_, g3, fun k hk => .inr (no hk)⟩⟩, ⟨⟨_, [], g2, Holds.nil 0, fun k hk => .inl (no hk)⟩, ⟨_, h4, fun k hk => .inr (no hk)⟩⟩, ?_, ?_, ?_⟩, ?_⟩
  · rintro k (rfl | rfl) (rfl | rfl) <;> omega
  · rintro k (rfl | rfl)
    · exact ⟨ha, _, _, g1.1, .inl rfl⟩
    · exact ⟨by omega, _, _, g3.1, .inr (.inr (.inl rfl))⟩
  · rintro k (rfl | rfl)
    · exact ⟨by omega, _, _, g2.1, .inl rfl⟩
    · exact ⟨by omega, _, _, h4.1, .inr (.inr (.inl rfl))⟩
  · exact below_step (below_step (below_step b1 b2) b3) b4
end Go.Proofs.Ytekcpcipbccodaa.Mem
