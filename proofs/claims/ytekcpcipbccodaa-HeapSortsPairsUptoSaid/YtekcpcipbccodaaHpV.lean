/- The order of keys, in plain Lean: what Order answers is each place once, rising; there is one such list. -/
import Derived.Test.YtekcpcipbccodaaHpO
import Derived.Test.YtekcpcipbccodaaPur
namespace Go.Proofs.Ytekcpcipbccodaa.Mem
open Go.RowKit Go.Proofs.YtekcpcipbccodaaW.PrintWords Go.Proofs.YtekcpcipbccodaaW.PrintLast Go.Proofs.YtekcpcipbccodaaW.PrintMore Go.Proofs.Ytekcpcipbccodaa.Pur
set_option linter.unusedVariables false
set_option linter.unusedSimpArgs false

theorem mn_mem {L : List Nd} (h : L ≠ []) : mn L ∈ L := by
  have := mnI_lt h
  unfold mn
  rw [bang, List.getElem?_eq_getElem this]
  exact List.getElem_mem this
theorem mn_perm {L : List Nd} (h : L ≠ []) : (mn L :: rest L).Perm L := by
  have hlt := mnI_lt h
  have := get_perm L (mnI L) hlt
  have e : mn L = L[mnI L] := by unfold mn; rw [bang, List.getElem?_eq_getElem hlt]; rfl
  rw [e]
  exact this
theorem mn_le {L : List Nd} (hT : L.Pairwise (fun x y => x.turn < y.turn)) (h : L ≠ []) : ∀ y ∈ L, (mn L).le y := by
  intro y hy
  obtain ⟨m, hm, hml, hmin, hfst⟩ := fst_spec (L.map toIt) (by simpa using h)
  rw [List.length_map] at hml hmin
  have e1 : mnI L = m := by unfold mnI; rw [hm]; rfl
  have gk : ∀ j, j < L.length → ((L.map toIt)[j]!).key = (L[j]!).key := fun j hj => by
    rw [List.getElem!_eq_getElem?_getD, List.getElem!_eq_getElem?_getD, List.getElem?_map, List.getElem?_eq_getElem hj]
    rfl
  obtain ⟨j, hj, rfl⟩ := List.getElem_of_mem hy
  have gj : L[j]! = L[j] := by rw [bang, List.getElem?_eq_getElem hj]; rfl
  have gm : L[m]! = L[m] := by rw [bang, List.getElem?_eq_getElem hml]; rfl
  unfold mn
  rw [e1, Nd.le_iff]
  have h1 := hmin j hj
  rw [gk m hml, gk j hj, gm, gj] at h1
  rw [gm]
  rcases Nat.lt_trichotomy j m with h2 | h2 | h2
  · have h3 := hfst j h2
    rw [gk m hml, gk j hj, gm, gj] at h3
    omega
  · subst h2
    omega
  · have h3 := List.pairwise_iff_getElem.1 hT m j hml hj h2
    omega
theorem rest_turns {L : List Nd} (hT : L.Pairwise (fun x y => x.turn < y.turn)) : (rest L).Pairwise (fun x y => x.turn < y.turn) := hT.sublist (List.eraseIdx_sublist _ _)
theorem drain_spec : ∀ (n : Nat) (L : List Nd), L.length = n → L.Pairwise (fun x y => x.turn < y.turn) → (drainV L.length L).Perm L ∧ (drainV L.length L).Pairwise (fun x y => x.le y)
  | 0, L, hn, hT => by
    obtain rfl := List.eq_nil_of_length_eq_zero hn
    exact ⟨List.Perm.refl _, List.Pairwise.nil⟩
  | n + 1, L, hn, hT => by
    have hne : L ≠ [] := fun e => by rw [e] at hn; simp at hn
    have hr := rest_len hne
    rw [drainV_step hne]
    obtain ⟨ih1, ih2⟩ := drain_spec n (rest L) (by omega) (rest_turns hT)
    refine ⟨(ih1.cons _).trans (mn_perm hne), List.pairwise_cons.2 ⟨fun y hy => ?_, ih2⟩⟩
    exact mn_le hT hne y (List.mem_of_mem_eraseIdx (ih1.mem_iff.1 hy))

/-- The place a stands ahead of the place b. -/
def Ah (keys : List Int) (a b : Int) : Prop := rd keys a < rd keys b ∨ (rd keys a = rd keys b ∧ a < b)
def places (n : Nat) : List Int := (List.range n).map fun (i : Nat) => (i : Int)
structure IsOrd (keys p : List Int) : Prop where
  perm : p.Perm (places keys.length)
  srt : p.Pairwise (Ah keys)
theorem uniq {α : Type} {R : α → α → Prop} (has : ∀ x y, R x y → ¬ R y x) : ∀ (p q : List α), p.Perm q → p.Pairwise R → q.Pairwise R → p = q
  | [], q, h, _, _ => (List.Perm.nil_eq h)
  | a :: p, [], h, _, _ => absurd h.length_eq (by simp)
  | a :: p, b :: q, h, hp, hq => by
    obtain ⟨hp1, hp2⟩ := List.pairwise_cons.1 hp
    obtain ⟨hq1, hq2⟩ := List.pairwise_cons.1 hq
    have hab : a = b := Classical.byContradiction fun hne => by
      have h1 : a ∈ b :: q := h.mem_iff.1 List.mem_cons_self
      have h2 : b ∈ a :: p := h.mem_iff.2 List.mem_cons_self
      rcases List.mem_cons.1 h1 with e | h1
      · exact hne e
      · rcases List.mem_cons.1 h2 with e | h2
        · exact hne e.symm
        · exact has _ _ (hq1 _ h1) (hp1 _ h2)
    subst hab
    rw [uniq has p q h.cons_inv hp2 hq2]
theorem Ah.asymm {keys : List Int} (a b : Int) (h : Ah keys a b) : ¬ Ah keys b a := by unfold Ah at *; omega
theorem IsOrd.eq {keys p q : List Int} (hp : IsOrd keys p) (hq : IsOrd keys q) : p = q := uniq Ah.asymm p q (hp.perm.trans hq.perm.symm) hp.srt hq.srt
theorem tag_get (keys : List Int) (i : Nat) (h : i < (tag keys).length) : (tag keys)[i] = ⟨keys[i]'(by simpa [tag] using h), i, i⟩ := by simp [tag]
theorem tag_val (keys : List Int) : (tag keys).map (·.val) = places keys.length := by
  apply List.ext_getElem
  · simp [tag, places]
  · intro i h1 h2
    simp [tag, places]
theorem tag_turns (keys : List Int) : (tag keys).Pairwise (fun x y => x.turn < y.turn) := by
  rw [List.pairwise_iff_getElem]
  intro i j hi hj hij
  rw [tag_get, tag_get]
  show (i : Int) < j
  omega
theorem tag_mem {keys : List Int} {x : Nd} (h : x ∈ tag keys) : x.turn = x.val ∧ x.key = rd keys x.val ∧ 0 ≤ x.val ∧ x.val < keys.length := by
  obtain ⟨i, hi, rfl⟩ := List.getElem_of_mem h
  rw [tag_get]
  have hi2 : i < keys.length := by simpa [tag] using hi
  exact ⟨rfl, (rd_nat keys i hi2).symm, Int.natCast_nonneg _, by show (i : Int) < _; omega⟩
theorem orderV_ord (keys : List Int) : IsOrd keys (orderV keys) := by
  obtain ⟨h1, h2⟩ := drain_spec _ (tag keys) rfl (tag_turns keys)
  refine ⟨?_, ?_⟩
  · have := h1.map (·.val)
    rw [tag_val] at this
    exact this
  · unfold orderV
    rw [List.pairwise_map]
    have hne : (drainV (tag keys).length (tag keys)).Pairwise (fun x y => x.turn ≠ y.turn) := by
      refine (List.Perm.pairwise_iff (fun h e => h e.symm) h1).2 ((tag_turns keys).imp fun h => by omega)
    refine List.Pairwise.imp_of_mem ?_ (h2.and hne)
    intro x y hx hy ⟨hle, hn⟩
    obtain ⟨a1, a2, a3⟩ := tag_mem (h1.mem_iff.1 hx)
    obtain ⟨b1, b2, b3⟩ := tag_mem (h1.mem_iff.1 hy)
    rw [Nd.le_iff] at hle
    unfold Ah
    rw [← a2, ← b2]
    omega
theorem orderV_len (keys : List Int) : (orderV keys).length = keys.length := by
  have := (orderV_ord keys).perm.length_eq
  simpa [places] using this
theorem places_mem {n : Nat} {x : Int} (h : x ∈ places n) : 0 ≤ x ∧ x < n := by
  unfold places at h
  obtain ⟨i, hi, rfl⟩ := List.mem_map.1 h
  have := List.mem_range.1 hi
  omega
theorem orderV_mem {keys : List Int} {x : Int} (h : x ∈ orderV keys) : 0 ≤ x ∧ x < keys.length := places_mem ((orderV_ord keys).perm.mem_iff.1 h)
theorem orderV_rd {keys : List Int} {i : Nat} (h : i < keys.length) : 0 ≤ rd (orderV keys) i ∧ rd (orderV keys) i < keys.length := by
  have h2 : i < (orderV keys).length := by rw [orderV_len]; exact h
  rw [rd_nat _ _ h2]
  exact orderV_mem (List.getElem_mem h2)
theorem orderV_lt {keys : List Int} {i j : Nat} (hij : i < j) (h : j < keys.length) : Ah keys (rd (orderV keys) i) (rd (orderV keys) j) := by
  have h2 : j < (orderV keys).length := by rw [orderV_len]; exact h
  rw [rd_nat _ _ h2, rd_nat _ _ (by omega)]
  exact List.pairwise_iff_getElem.1 (orderV_ord keys).srt i j (by omega) h2 hij
/-- The test of the merge. -/
def leB (keys : List Int) (a b : Int) : Bool := decide (rd keys a < rd keys b ∨ (rd keys a = rd keys b ∧ a ≤ b))
theorem leB_trans (keys : List Int) (a b c : Int) (h1 : leB keys a b = true) (h2 : leB keys b c = true) : leB keys a c = true := by
  unfold leB at *
  rw [decide_eq_true_iff] at *
  omega
theorem leB_total (keys : List Int) (a b : Int) : (leB keys a b || leB keys b a) = true := by
  unfold leB
  rw [Bool.or_eq_true, decide_eq_true_iff, decide_eq_true_iff]
  omega
theorem ord_of_le {keys p : List Int} (hp : p.Perm (places keys.length)) (hs : p.Pairwise (fun a b => leB keys a b = true)) : IsOrd keys p := by
  refine ⟨hp, ?_⟩
  have hn : p.Pairwise (· ≠ ·) := by
    refine (List.Perm.pairwise_iff (fun h e => h e.symm) hp).2 ?_
    unfold places
    rw [List.pairwise_map]
    exact (List.nodup_range).imp fun h => by omega
  refine (hs.and hn).imp ?_
  intro a b ⟨h1, h2⟩
  unfold leB at h1
  rw [decide_eq_true_iff] at h1
  unfold Ah
  omega
end Go.Proofs.Ytekcpcipbccodaa.Mem
