/- heap.Order: walked by hand: the values in the order in which they come out. -/
import Derived.Test.YtekcpcipbccodaaHpD
import Derived.Maps.AppendAt
namespace Go.Proofs.Ytekcpcipbccodaa.Mem
open Go.RowKit Go.Proofs.YtekcpcipbccodaaW.PrintWords Go.Proofs.YtekcpcipbccodaaW.PrintLast Go.Proofs.YtekcpcipbccodaaW.PrintMore
attribute [local go_sem] Oper.semAt_some
set_option linter.unusedVariables false
set_option linter.unusedSimpArgs false

/-- Keys under their places. -/
def tag (l : List Int) : List Nd := l.zipIdx.map fun p => ⟨p.1, p.2, p.2⟩
theorem tag_snoc (l : List Int) (k : Int) : tag (l ++ [k]) = tag l ++ [⟨k, l.length, l.length⟩] := by simp [tag, List.zipIdx_append]
theorem tag_len (l : List Int) : (tag l).length = l.length := by simp [tag]
def drainV : Nat → List Nd → List Nd
  | 0, _ => []
  | k + 1, L => if L = [] then [] else mn L :: drainV k (rest L)
theorem drainV_step {L : List Nd} (h : L ≠ []) : drainV L.length L = mn L :: drainV (rest L).length (rest L) := by
  have := rest_len h
  rw [← this, drainV, if_neg h]
theorem drainV_nil : drainV ([] : List Nd).length [] = [] := rfl
def orderV (keys : List Int) : List Int := (drainV (tag keys).length (tag keys)).map (·.val)

section
variable {σ : Type} {B g D l : Nat} {Y X : σ → Nat → Prop} {L : σ → List Nd} {T : σ → Int} {I : σ → World → Prop}
theorem keep_put {Z : Nat → Prop} (W : World) {k : Nat} (o : Obj) (h : ∀ q, Z q → q ≠ k) : Keep Z W (W.putObj k o) := ⟨rfl, rfl, rfl, by simp, fun q hq _ => World.putObj_heap_other (h q hq)⟩
theorem drJ_free (hB : B ≠ D ∧ B ≠ l) (hX : ∀ s, X s D ∧ X s l) (hI : ∀ s W W', I s W → Keep (Y s) W W' → I s W') (hY : ∀ s W q, I s W → Y s q → q ≠ D ∧ q ≠ l) (s : σ) : Free D l (DrJ B g X L T I s) := by
  intro W k o o' hk ho ⟨h1, h2, h3⟩
  refine ⟨(World.putObj_heap_other (by rcases hk with rfl | rfl; exact hB.1; exact hB.2)).trans h1, h2.putObj (by rcases hk with rfl | rfl; exact (hX s).1; exact (hX s).2) _, hI s _ _ h3 (keep_put W o' fun q hq => ?_)⟩
  have := hY s W q h3 hq
  rcases hk with rfl | rfl
  · exact this.1
  · exact this.2
theorem drD_free (hB : B ≠ D ∧ B ≠ l) (hX : ∀ s, X s D ∧ X s l) (hI : ∀ s W W', I s W → Keep (Y s) W W' → I s W') (hY : ∀ s W q, I s W → Y s q → q ≠ D ∧ q ≠ l) (s : σ) : Free D l (DrD B g X L T I s) :=
  fun W k o o' hk ho h => ⟨drJ_free hB hX hI hY s W k o o' hk ho h.1, h.2⟩
theorem drM_free (hB : B ≠ D ∧ B ≠ l) (hX : ∀ s, X s D ∧ X s l) (hI : ∀ s W W', I s W → Keep (Y s) W W' → I s W') (hY : ∀ s W q, I s W → Y s q → q ≠ D ∧ q ≠ l) (s : σ) (x : Nd) : Free D l (DrM B g X L T I s x) := by
  intro W k o o' hk ho ⟨h1, h2, h3, h4⟩
  refine ⟨(World.putObj_heap_other (by rcases hk with rfl | rfl; exact hB.1; exact hB.2)).trans h1, h2.putObj (by rcases hk with rfl | rfl; exact (hX s).1; exact (hX s).2) _, hI s _ _ h3 (keep_put W o' fun q hq => ?_), h4⟩
  have := hY s W q h3 hq
  rcases hk with rfl | rfl
  · exact this.1
  · exact this.2
end

theorem Try.infoI3 : (Try.prog.info? 3).map (fun i => (i.zero, i.size, i.bytes)) = some (some (.int .i64 0), 1, 8) := by kernel_rfl

/-- What Order holds between two rounds: what is still to come, the list so far, and the row that it lies in. -/
structure OrI (w : World) (Bq : Nat) (keys : List Int) (s : List Nd × List Int × Value) (W : World) : Prop where
  box : W.heap[Bq]? = some (.cells #[s.2.2] 32 (0, 0))
  row : W.ownsRow w.heap.size 3 1 s.2.2 s.2.1.length (s.2.1.map (Value.int .i64))
  bel : Below w.heap.size w W
  size : Bq + 4 ≤ W.heap.size
  far : ∀ k, s.2.2.ownBlock = some k → k ≠ Bq + 2 ∧ k ≠ Bq + 3
  told : s.2.1 ++ (drainV s.1.length s.1).map (·.val) = orderV keys
  few : s.2.1.length + s.1.length = keys.length
def OrY (w : World) (Bq : Nat) (s : List Nd × List Int × Value) (k : Nat) : Prop := k < w.heap.size ∨ k = Bq ∨ k = Bq + 1 ∨ s.2.2.ownBlock = some k
def OrX (w : World) (Bq : Nat) (s : List Nd × List Int × Value) (k : Nat) : Prop := OrY w Bq s k ∨ k = Bq + 2 ∨ k = Bq + 3
theorem OrI.keep {w W W' : World} {Bq : Nat} {keys : List Int} {s : List Nd × List Int × Value} (h : OrI w Bq keys s W) (hk : Keep (OrY w Bq s) W W') : OrI w Bq keys s W' :=
  ⟨hk.blk h.box (.inr (.inl rfl)), own_move h.row (fun k e => hk.block k (.inr (.inr (.inr e))) (own_lt h.row k e)), h.bel.trans (hk.below (fun k e => .inl e) h.bel.size), Nat.le_trans h.size hk.size, h.far, h.told, h.few⟩
theorem orY_far {w : World} {Bq : Nat} {keys : List Int} (hb : w.heap.size ≤ Bq) (s : List Nd × List Int × Value) (W : World) (q : Nat) (h : OrI w Bq keys s W) (hq : OrY w Bq s q) : q ≠ Bq + 2 ∧ q ≠ Bq + 2 + 1 := by
  rcases hq with h1 | h1 | h1 | h1
  · omega
  · omega
  · omega
  · exact h.far q h1
theorem or_step {w W w1 : World} {Bq g : Nat} {keys : List Int} {L : List Nd} {out : List Int} {v v' : Value} {T : Int} (hBq : w.heap.size ≤ Bq) (hI : OrI w Bq keys (L, out, v) W) (hne : L ≠ [])
    (hB : W.heap[Bq + 1]? = some (.cells #[.pointer (some ⟨g, 0, none⟩)] 23 (0, 0))) (hH : HpX (OrX w Bq (L, out, v)) W g (rest L) T) {g' cap : Nat} (hv : v' = .slice (some ⟨g', 0, none⟩) (out.length + 1) cap)
    (hown : w1.ownsRow w.heap.size 3 1 v' (out.length + 1) (out.map (Value.int .i64) ++ [.int .i64 (mn L).val])) (hgrow : (W.alloc (.cells #[.int .i64 (mn L).val] 3)).grownBy w1 v.ownBlock) (hat : v.ownBlock = some g' ∨ g' = W.heap.size + 1) :
    w1.cell? ⟨Bq, 0, none⟩ = some v ∧ w1.frozen? ⟨Bq, 0, none⟩ = false ∧
    ((∃ s', s'.1.length < L.length ∧ (w1.setCell ⟨Bq, 0, none⟩ v').heap[Bq + 1]? = some (.cells #[.pointer (some ⟨g, 0, none⟩)] 23 (0, 0)) ∧ HpX (OrX w Bq s') (w1.setCell ⟨Bq, 0, none⟩ v') g s'.1 T ∧ OrI w Bq keys s' (w1.setCell ⟨Bq, 0, none⟩ v')) ∧
      (w1.setCell ⟨Bq, 0, none⟩ v').heap[Bq + 2]? = W.heap[Bq + 2]? ∧ (w1.setCell ⟨Bq, 0, none⟩ v').heap[Bq + 3]? = W.heap[Bq + 3]?) := by
  have hsz := hI.size
  have hfar := hI.far
  have hnq : some Bq ≠ v.ownBlock := by
    intro e
    obtain ⟨cells, hc⟩ := own_typed hI.row Bq e.symm
    have h1 := hI.box
    rw [hc] at h1
    injection h1 with h1
    injection h1 with _ h1
    exact absurd h1 (by decide)
  have hnp : some (Bq + 1) ≠ v.ownBlock := by
    intro e
    obtain ⟨cells, hc⟩ := own_typed hI.row (Bq + 1) e.symm
    rw [hc] at hB
    injection hB with hB
    injection hB with _ hB
    exact absurd hB (by decide)
  have keep : ∀ k, k < W.heap.size → some k ≠ v.ownBlock → w1.heap[k]? = W.heap[k]? := fun k hk hne => (hgrow.block k (by simp; omega) hne).trans (Below.heap_alloc W _ k hk)
  have hbox1 : w1.heap[Bq]? = some (.cells #[v] 32 (0, 0)) := (keep Bq (by omega) hnq).trans hI.box
  have hw1 : W.heap.size ≤ w1.heap.size := by have := hgrow.size; simp at this; omega
  have hfg : v'.ownBlock = some g' := by rw [hv]; rfl
  have hg' : g' ≠ Bq ∧ g' ≠ Bq + 1 ∧ g' ≠ Bq + 2 ∧ g' ≠ Bq + 3 := by
    rcases hat with h | h
    · have := hfar g' h
      exact ⟨fun e => hnq (by rw [h, e]), fun e => hnp (by rw [h, e]), this.1, this.2⟩
    · omega
  have far2 : ∀ k, k ≠ Bq → (w1.setCell ⟨Bq, 0, none⟩ v').heap[k]? = w1.heap[k]? := fun k hk => Below.heap_setCell w1 ⟨Bq, 0, none⟩ v' k hk
  refine ⟨blk_cell hbox1 0, blk_frozen hbox1 0, ⟨(rest L, out ++ [(mn L).val], v'), ?_, ?_, ?_, ?_⟩, ?_, ?_⟩
  · have := rest_len hne
    show (rest L).length < L.length
    omega
  · rw [far2 _ (by omega), keep _ (by omega) hnp]
    exact hB
  · obtain ⟨vh, lh, hHI, hHl, hX⟩ := hH
    have hF : Frm (fun k => k = Bq ∨ v.ownBlock = some k) W (w1.setCell ⟨Bq, 0, none⟩ v') := (((Frm.refl _ W).alloc _).trans (Frm.of_grown (S := fun k => v.ownBlock = some k) hgrow (fun k hk => hk)) (fun k hk => .inl (.inr hk))).setCell (.inl (.inl rfl)) _
    refine ⟨vh, lh, hHI.frm hF (fun k hk => ?_), hHl, fun k hk => ?_⟩
    · have := hX k hk
      rintro (rfl | h)
      · exact this (.inl (.inr (.inl rfl)))
      · exact this (.inl (.inr (.inr (.inr h))))
    · have hk2 := hHI.lt hk
      have := hX k hk
      rintro ((h | h | h | h) | h)
      · exact this (.inl (.inl h))
      · exact this (.inl (.inr (.inl h)))
      · exact this (.inl (.inr (.inr (.inl h))))
      · rw [hfg] at h
        injection h with h
        rcases hat with h2 | h2
        · exact this (.inl (.inr (.inr (.inr (by rw [h2, h])))))
        · omega
      · exact this (.inr h)
  · refine ⟨?_, ?_, ?_, ?_, ?_, ?_, ?_⟩
    · have := blk_set hbox1 0 v'
      simpa using this
    · have := ((Frm.refl (fun k => k = Bq) w1).setCell (p := ⟨Bq, 0, none⟩) (.inl rfl) v').row hown (fun k e => by rw [hfg] at e; injection e with e; omega)
      simpa using this
    · have h1 : Below w.heap.size w w1 := (below_alloc hI.bel _).grown hgrow (by have := hI.bel.size; simp; omega) (own_base hI.row)
      exact h1.setCell (p := ⟨Bq, 0, none⟩) hBq _
    · show Bq + 4 ≤ _
      simp
      omega
    · intro k e
      rw [hfg] at e
      injection e with e
      omega
    · have := hI.told
      rw [drainV_step hne] at this
      show (out ++ [(mn L).val]) ++ _ = _
      rw [← this]
      simp
    · have := hI.few
      have h2 := rest_len hne
      show (out ++ [(mn L).val]).length + (rest L).length = _
      simp only [List.length_append, List.length_cons, List.length_nil] at this ⊢
      omega
  · rw [far2 _ (by omega), keep _ (by omega) (fun e => (hfar _ e.symm).1 rfl)]
  · rw [far2 _ (by omega), keep _ (by omega) (fun e => (hfar _ e.symm).2 rfl)]

set_option maxHeartbeats 4000000 in
set_option maxRecDepth 100000 in
theorem order_calls (w : World) (A : Option Addr) (cp : Nat) (keys : List Int) (hC : Kd.C (Kd.int .i64) w A keys.length keys) (hl : keys.length * 24 ≤ 140737488355328) :
    Calls Try.prog 37 #[.slice A keys.length cp] w fun e w' => ∃ v, e = .returned v ∧ Kd.R (Kd.int .i64) 3 w' w.heap.size (fun _ => True) v (orderV keys) ∧ Below w.heap.size w w' := by
  have HC := Aside0.mk hC
  have HN := Aside0.mk hl
  have hlen : keys.length ≤ 5864062014805 := by omega
  obtain ⟨i0, hi0, hz0, hz1, hz2⟩ := info_parts Try.infoI3
  clear hC
  refine (callsIn_wide (n := 6)).1 ?_
  refine callsIn_of_wp_marks Try.func37 rfl trivial ?_ rfl
  simp only [Try.ntmps37, List.size_toArray, List.length_cons, List.length_nil, Nat.reduceAdd, Nat.reduceSub, Array.replicate_succ, Array.replicate_zero, List.push_toArray, List.append_toArray, List.nil_append, List.cons_append]
  refine wpIn_wide.2 ?_
  go_wp2_with (first | (go_at_call 15; refine (newX _ (fun k => k < w.heap.size) (fun k h => h)).mono ?_; rintro e w1 ⟨g, rfl, hg, hH, hb⟩))
  have HH := Aside0.mk hH
  have HB := Aside0.mk hb
  clear hH hb hl
  go_loopg [12] (keys.length + 1) (fun gk v12 wr => ∃ i : Nat, v12 = .int .i64 i ∧ i ≤ keys.length ∧ keys.length + 1 ≤ i + gk ∧ Aside0 (HpX (fun k => k < w.heap.size) wr g (tag (keys.take i)) i) ∧ Aside0 (Below w.heap.size w wr))
  case atStart => exact ⟨0, by go_num, by omega, by omega, ⟨by simpa [tag] using HH.out⟩, HB⟩
  case round =>
    obtain ⟨i, rfl, hi, hgk, HH2, HB2⟩ := hrel
    clear HH HB
    by_cases hlt : i < keys.length
    · have hltb : decide ((i : Int) < (keys.length : Int)) = true := decide_eq_true (by omega)
      obtain ⟨ad, hA, hcell⟩ := ReadsOf.at_ (Kd.reads_of_C (enc := Value.int .i64) (d := (0 : Int)) (h1 := fun _ => rfl) (Kd.C_below HC.out HB2.out)) (i : Int) (by omega) (by omega)
      rw [Int.toNat_natCast] at hcell
      subst hA
      have hd : keys.take (i + 1) = keys.take i ++ [rdOf 0 keys (i : Int)] := by
        rw [List.take_succ_eq_append_getElem hlt, rdOf, Int.toNat_natCast, List.getD_eq_getElem?_getD, List.getElem?_eq_getElem hlt]
        rfl
      have HD := Aside0.mk hd
      clear hd
      generalize rdOf 0 keys (i : Int) = x at *
      have q3 : (i : Int) < (keys.length : Int) := by omega
      have hti : (tag (keys.take i)).length = i := by rw [tag_len, List.length_take]; omega
      have hP := Aside0.mk (pushX wr (fun k => k < w.heap.size) g (tag (keys.take i)) i x i HH2.out (fun k hk => Nat.lt_of_lt_of_le hk HB2.out.size) (by omega) (by have := HN.out; omega) (by rw [hti]; have := HN.out; omega))
      clear hti
      go_wp2_with (first | (go_at_call 29; refine hP.out.mono ?_; rintro e w2 ⟨rfl, hH3, hK3⟩))
      go_roundg (keys.length - i)
      case measure => omega
      case rel => exact ⟨i + 1, by go_num, by omega, by omega, ⟨by rw [HD.out, tag_snoc, List.length_take, Nat.min_eq_left hi]; exact hH3⟩, ⟨HB2.out.trans (hK3.below (fun k hk => hk) HB2.out.size)⟩⟩
    · have hltb : decide ((i : Int) < (keys.length : Int)) = false := decide_eq_false (by omega)
      obtain rfl : i = keys.length := by omega
      rw [List.take_length] at HH2
      go_wp2_with (first | (go_at_call 31; refine (drain_calls _ _).mono ?_; rintro e w2 ⟨rfl, rfl⟩))
      obtain ⟨Bq, hBq⟩ : ∃ Bq, Bq = wr.heap.size := ⟨_, rfl⟩
      obtain ⟨W0, hW0⟩ : ∃ W0, W0 = ((wr.alloc (Obj.cells #[Value.slice none 0 0] 32)).alloc (Obj.cells #[Value.pointer (some { block := g, off := 0 })] 23)) := ⟨_, rfl⟩
      have hb0 : w.heap.size ≤ Bq := hBq ▸ HB2.out.size
      have hs0 : W0.heap.size = Bq + 2 := by rw [hW0, hBq]; simp
      have hq0 : W0.heap[Bq]? = some (.cells #[.slice none 0 0] 32 (0, 0)) := by rw [hW0, hBq]; exact blk_alloc (blk_new wr _) _
      have hp0 : W0.heap[Bq + 1]? = some (.cells #[.pointer (some ⟨g, 0, none⟩)] 23 (0, 0)) := by
        rw [hW0, hBq]
        have := blk_new (wr.alloc (Obj.cells #[Value.slice none 0 0] 32)) (.cells #[.pointer (some ⟨g, 0, none⟩)] 23)
        rwa [World.size_alloc] at this
      have hB0 : Below w.heap.size w W0 := by rw [hW0]; exact below_alloc (below_alloc HB2.out _) _
      have hH0 : HpX (OrX w Bq (tag keys, [], .slice none 0 0)) W0 g (tag keys) keys.length := by
        rw [hW0]
        refine ((HH2.out.mono (fun k hk => ?_)).alloc _).alloc _
        rcases hk with (h | h | h | h) | h
        · exact .inl h
        · exact .inr (by omega)
        · exact .inr (by omega)
        · simp [Value.ownBlock] at h
        · exact .inr (by omega)
      rw [← hW0, ← hBq]
      clear hW0 hBq HH2 HB2 hg
      have HQ0 := Aside0.mk hq0
      have HP0 := Aside0.mk hp0
      have HB0 := Aside0.mk hB0
      have HH0 := Aside0.mk hH0
      clear hq0 hp0 hB0 hH0
      refine (wpIn_wide (n := 6)).1 ?_
      refine wpIn_range_st (σ := List Nd × List Int × Value) (α := Nd) rfl (by omega) (gf := 53) (lb := #[.pointer (some ⟨Bq + 1, 0, none⟩)]) rfl trivial (enters_of Try.func53 (by kernel_rfl) rfl) (encs := fun x => #[.int .i64 x.key, .int .i64 x.val])
        (DrJ (Bq + 1) g (OrX w Bq) (fun s => s.1) (fun _ => (keys.length : Int)) (OrI w Bq keys)) (DrD (Bq + 1) g (OrX w Bq) (fun s => s.1) (fun _ => (keys.length : Int)) (OrI w Bq keys)) (DrM (Bq + 1) g (OrX w Bq) (fun s => s.1) (fun _ => (keys.length : Int)) (OrI w Bq keys))
        (fun _ _ => False) (fun s' s => s'.1.length < s.1.length) (tag keys, [], .slice none 0 0) ?seq (fun _ => rfl) ?f1 ?f2 ?f3 (fun _ _ _ _ _ _ _ h => h) ?start ?a1 ?assign ?body ?done ?stop
      case seq =>
        rw [hs0]
        exact drain_st (σ := List Nd × List Int × Value) _ (Bq + 1) g (Bq + 2) (Bq + 2 + 1) (OrX w Bq) (fun s => s.1) (fun _ => (keys.length : Int)) (OrI w Bq keys) (fun s => s.1.length) _ (fun s => ⟨.inl (.inr (.inr (.inl rfl))), .inr (.inl rfl), .inr (.inr rfl)⟩) (fun s W W' h hk => h.keep (hk.mono (fun k hk => .inl hk))) (fun s W h => by have := h.few; have := HN.out; show s.1.length * 24 ≤ _; omega)
      case assign =>
        intro l x W K hK
        gi_wp2
        exact hK
      case body =>
        rintro ⟨L, out, v⟩ x W ⟨hb1, hH1, hI1, hne, rfl⟩
        rw [hs0]
        have HB1 := Aside0.mk hb1
        have HH1 := Aside0.mk hH1
        have HI1 := Aside0.mk hI1
        have hbox : W.cell? ⟨Bq, 0, none⟩ = some v := blk_cell hI1.box 0
        have hrow : Aside0 (W.ownsRow w.heap.size 3 1 v out.length (out.map (Value.int .i64))) := Aside0.mk hI1.row
        have hfew : out.length + L.length = keys.length := hI1.few
        have hbs := hI1.bel.size
        have hfro : W.frozen? ⟨Bq, 0, none⟩ = false := blk_frozen hI1.box 0
        clear hb1 hH1 hI1
        gi_wp2_with (first | (gi_at_builtin; refine wpListIn_append_lies _ rfl _ _ 32 rfl w.heap.size 3 i0 (.int .i64 0) 1 8 Try.underlying32 hi0 hz0 hz1 hz2 rfl (by decide) v out.length (out.map (Value.int .i64)) ?b1 (hrow.out.alloc _) ⟨W.heap.size, 0, none⟩ 1 1 [.int .i64 (mn L).val] ?b2 ?b3 (cell_one_new _ _ _) (by simp [Value.oneCell']) (by omega) ?b4 ?b5 ?b6 (W.heap.size + 1) ?b7 ?b8; (case b1 => rfl); (case b2 => rfl); (case b3 => rfl); (case b4 => unfold maxLen; omega); (case b5 => omega); (case b6 => simp; omega); (case b7 => simp); intro g' cap w2 hown hgrow hat hlt2; obtain ⟨c1, c2, HE⟩ := or_step hb0 HI1.out hne HB1.out HH1.out rfl hown hgrow hat; clear hbox hfro hown hgrow hat; replace HE := Aside0.mk HE))
        exact HE.out
      case f1 =>
        intro s
        rw [hs0]
        exact drJ_free (Y := OrY w Bq) ⟨by omega, by omega⟩ (fun s => ⟨.inr (.inl rfl), .inr (.inr rfl)⟩) (fun s W W' h hk => h.keep hk) (orY_far hb0) s
      case f2 =>
        intro s
        rw [hs0]
        exact drD_free (Y := OrY w Bq) ⟨by omega, by omega⟩ (fun s => ⟨.inr (.inl rfl), .inr (.inr rfl)⟩) (fun s W W' h hk => h.keep hk) (orY_far hb0) s
      case f3 =>
        intro s x
        rw [hs0]
        exact drM_free (Y := OrY w Bq) ⟨by omega, by omega⟩ (fun s => ⟨.inr (.inl rfl), .inr (.inr rfl)⟩) (fun s W W' h hk => h.keep hk) (orY_far hb0) s x
      case start =>
        intro o o'
        refine ⟨blk_alloc (blk_alloc HP0.out _) _, (HH0.out.alloc _).alloc _, blk_alloc (blk_alloc HQ0.out _) _, ⟨by simp, .inl ⟨rfl, by simp⟩⟩, below_alloc (below_alloc HB0.out _) _, ?_, ?_, ?_, ?_⟩
        · simp [hs0]
        · intro k e
          simp [Value.ownBlock] at e
        · rfl
        · simp [tag_len]
      case stop => exact fun _ _ h => h.elim
      case done =>
        rintro ⟨L, out, v⟩ W ⟨⟨hb1, hH1, hI1⟩, hL⟩ hK
        rw [hs0] at hK
        have hbox : W.cell? ⟨Bq, 0, none⟩ = some v := blk_cell hI1.box 0
        have htold : out = orderV keys := by
          have h1 := hI1.told
          have h2 : L = [] := hL
          subst h2
          simpa [drainV] using h1
        have HT := Aside0.mk htold
        have HI := Aside0.mk hI1
        clear htold hb1 hH1 hI1 hL
        rw [hs0]
        go_wp2
        refine ⟨by simp, .inl ⟨_, _, rfl, run_takeDeferred hK, ?_⟩⟩
        refine ⟨_, results_tmp rfl _ _ _, v, rfl, ?_, ?_⟩
        · rw [← HT.out]
          refine Kd.R_of_own ?_ (fun _ _ => trivial)
          exact own_move HI.out.row (fun k e => World.putObj_heap_other (HI.out.far k e).1)
        · exact HI.out.bel.grown (grownBy_putObj' W _ _) HI.out.bel.size (fun k e => by cases e; omega)
end Go.Proofs.Ytekcpcipbccodaa.Mem
