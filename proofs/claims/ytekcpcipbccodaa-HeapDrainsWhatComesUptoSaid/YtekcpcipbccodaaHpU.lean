/- The heap's order, in plain Lean: up and down keep it; the first is the least. -/
import Derived.Test.YtekcpcipbccodaaHpC
import Derived.Test.YtekcpcipbccodaaHpR
namespace Go.Proofs.Ytekcpcipbccodaa.Mem
set_option linter.unusedVariables false
set_option linter.unusedSimpArgs false

theorem Nd.lt_iff {x y : Nd} : x.lt y = true ↔ x.key < y.key ∨ (x.key = y.key ∧ x.turn < y.turn) := by
  simp [Nd.lt]
theorem Nd.nlt_iff {x y : Nd} : x.lt y = false ↔ ¬ (x.key < y.key ∨ (x.key = y.key ∧ x.turn < y.turn)) := by
  rw [← Nd.lt_iff]; simp
/-- x does not stand behind y. -/
structure Nd.le (x y : Nd) : Prop where
  out : y.lt x = false
theorem Nd.le_iff {x y : Nd} : x.le y ↔ ¬ (y.key < x.key ∨ (y.key = x.key ∧ y.turn < x.turn)) := ⟨fun h => Nd.nlt_iff.1 h.out, fun h => ⟨Nd.nlt_iff.2 h⟩⟩
theorem Nd.le_rfl (x : Nd) : x.le x := by rw [Nd.le_iff]; omega
theorem Nd.le.trans_ {x y z : Nd} (h : x.le y) (h2 : y.le z) : x.le z := by rw [Nd.le_iff] at *; omega
theorem Nd.le_of_lt {x y : Nd} (h : x.lt y = true) : x.le y := by rw [Nd.le_iff]; rw [Nd.lt_iff] at h; omega
theorem Nd.le_of_nlt {x y : Nd} (h : x.lt y = false) : y.le x := ⟨h⟩

theorem swp_length (l : List Nd) (i j : Nat) : (swp l i j).length = l.length := by simp [swp]
theorem bang (l : List Nd) (i : Nat) : l[i]! = (l[i]?).getD default := by
  rw [List.getElem!_eq_getElem?_getD]
theorem swp_get (l : List Nd) {i j k : Nat} (hi : i < l.length) (hj : j < l.length) : (swp l i j)[k]! = if k = j then l[i]! else if k = i then l[j]! else l[k]! := by
  unfold swp
  rw [bang, List.getElem?_set]
  by_cases h : j = k
  · subst h
    rw [if_pos rfl, if_pos (by simpa using hj), if_pos rfl]
    rfl
  · rw [if_neg h, if_neg (Ne.symm h), List.getElem?_set]
    by_cases h2 : i = k
    · subst h2
      rw [if_pos rfl, if_pos hi, if_pos rfl]
      rfl
    · rw [if_neg h2, if_neg (Ne.symm h2), bang]
theorem set_perm {α : Type} : ∀ (l : List α) (i : Nat) (a : α), i < l.length → (l.set i a).Perm (a :: l.eraseIdx i)
  | [], i, a, h => by simp at h
  | x :: l, 0, a, h => by simp
  | x :: l, i + 1, a, h => by
    rw [List.set_cons_succ, List.eraseIdx_cons_succ]
    exact ((set_perm l i a (by simpa using h)).cons x).trans (List.Perm.swap a x _)
theorem get_perm {α : Type} : ∀ (l : List α) (i : Nat) (h : i < l.length), (l[i] :: l.eraseIdx i).Perm l
  | [], i, h => by simp at h
  | x :: l, 0, h => by simp
  | x :: l, i + 1, h => by
    rw [List.getElem_cons_succ, List.eraseIdx_cons_succ]
    exact (List.Perm.swap x _ _).trans ((get_perm l i (by simpa using h)).cons x)
theorem swp_perm (l : List Nd) {i j : Nat} (hi : i < l.length) (hj : j < l.length) : (swp l i j).Perm l := by
  by_cases h : i = j
  · subst h
    unfold swp
    have e : (l.set i l[i]!) = l := by
      rw [List.getElem!_eq_getElem?_getD, List.getElem?_eq_getElem hi]
      exact List.set_getElem_self hi
    rw [e, e]
  · unfold swp
    generalize hb : l[j]! = b
    generalize ha : l[i]! = a
    have hj2 : j < (l.set i b).length := by simpa using hj
    have e1 : (l.set i b)[j] = b := by
      rw [List.getElem_set_ne h]
      rw [List.getElem!_eq_getElem?_getD, List.getElem?_eq_getElem hj] at hb
      exact hb
    have p1 : ((l.set i b).set j a).Perm (a :: (l.set i b).eraseIdx j) := set_perm _ _ _ hj2
    have p2 : ((l.set i b)[j] :: (l.set i b).eraseIdx j).Perm (l.set i b) := get_perm _ _ hj2
    rw [e1] at p2
    have p3 : (l.set i b).Perm (b :: l.eraseIdx i) := set_perm _ _ _ hi
    have p4 : ((l.set i b).eraseIdx j).Perm (l.eraseIdx i) := List.Perm.cons_inv (p2.trans p3)
    have e2 : l[i] = a := by
      rw [List.getElem!_eq_getElem?_getD, List.getElem?_eq_getElem hi] at ha
      exact ha
    have p5 : (l[i] :: l.eraseIdx i).Perm l := get_perm _ _ hi
    rw [e2] at p5
    exact p1.trans ((p4.cons a).trans p5)

/-- No node stands before the one at half its place. -/
def HpOk (l : List Nd) : Prop := ∀ j, 0 < j → j < l.length → (l[(j - 1) / 2]!).le l[j]!
/-- .. but for the one at i, whose children are fine. -/
def UpInv (l : List Nd) (i : Nat) : Prop :=
  (∀ j, 0 < j → j < l.length → j ≠ i → (l[(j - 1) / 2]!).le l[j]!) ∧ (0 < i → ∀ c, 0 < c → c < l.length → (c - 1) / 2 = i → (l[(i - 1) / 2]!).le l[c]!)
def DnInv (l : List Nd) (i : Nat) : Prop :=
  (∀ j, 0 < j → j < l.length → (j - 1) / 2 ≠ i → (l[(j - 1) / 2]!).le l[j]!) ∧ (0 < i → ∀ c, 0 < c → c < l.length → (c - 1) / 2 = i → (l[(i - 1) / 2]!).le l[c]!)

theorem up_ok : ∀ (k : Nat) (l : List Nd) (i : Nat), i < l.length → i < k → UpInv l i → HpOk (up k l i) ∧ (up k l i).Perm l
  | 0, l, i, hi, hk, h => by omega
  | k + 1, l, i, hi, hk, h => by
    unfold up
    by_cases h0 : i = 0
    · rw [if_pos h0]
      exact ⟨fun j h1 h2 => h.1 j h1 h2 (by omega), List.Perm.refl _⟩
    · rw [if_neg h0]
      by_cases hc : (l[i]!).lt (l[(i - 1) / 2]!) = true
      · rw [if_pos hc]
        have hp : (i - 1) / 2 < i := by omega
        obtain ⟨p, hpe⟩ : ∃ p, p = (i - 1) / 2 := ⟨_, rfl⟩
        rw [← hpe] at hc hp ⊢
        have hpl : p < l.length := by omega
        have hinv : UpInv (swp l i p) p := by
          refine ⟨fun j h1 h2 h3 => ?_, fun h1 c h2 h3 h4 => ?_⟩
          · rw [swp_length] at h2
            rw [swp_get l hi hpl, swp_get l hi hpl, if_neg h3]
            by_cases hji : j = i
            · subst hji
              rw [if_pos rfl, if_pos hpe.symm]
              exact Nd.le_of_lt hc
            · rw [if_neg hji]
              by_cases hq : (j - 1) / 2 = p
              · rw [if_pos hq]
                have h5 := h.1 j h1 h2 hji
                rw [hq] at h5
                exact (Nd.le_of_lt hc).trans_ h5
              · rw [if_neg hq]
                by_cases hq2 : (j - 1) / 2 = i
                · rw [if_pos hq2]
                  have h5 := h.2 (by omega) j h1 h2 hq2
                  rw [← hpe] at h5
                  exact h5
                · rw [if_neg hq2]
                  exact h.1 j h1 h2 hji
          · rw [swp_length] at h3
            rw [swp_get l hi hpl, swp_get l hi hpl, if_neg (show (p - 1) / 2 ≠ p by omega), if_neg (show (p - 1) / 2 ≠ i by omega), if_neg (show c ≠ p by omega)]
            have h5 := h.1 p h1 hpl (by omega)
            by_cases hci : c = i
            · rw [if_pos hci]; exact h5
            · rw [if_neg hci]
              have h6 := h.1 c h2 h3 hci
              rw [h4] at h6
              exact h5.trans_ h6
        have ih := up_ok k (swp l i p) p (by rw [swp_length]; omega) (by omega) hinv
        exact ⟨ih.1, ih.2.trans (swp_perm l hi hpl)⟩
      · rw [if_neg hc]
        refine ⟨fun j h1 h2 => ?_, List.Perm.refl _⟩
        by_cases hji : j = i
        · subst hji
          exact Nd.le_of_nlt (by simpa using hc)
        · exact h.1 j h1 h2 hji
theorem push_ok (l : List Nd) (x : Nd) (h : HpOk l) : HpOk (up (l.length + 1) (l ++ [x]) l.length) ∧ (up (l.length + 1) (l ++ [x]) l.length).Perm (l ++ [x]) := by
  have hb : ∀ j, j < l.length → (l ++ [x])[j]! = l[j]! := fun j hj => by
    rw [bang, bang, List.getElem?_append_left hj]
  refine up_ok _ _ _ (by simp) (by omega) ⟨fun j h1 h2 h3 => ?_, fun h1 c h2 h3 h4 => ?_⟩
  · simp only [List.length_append, List.length_cons, List.length_nil] at h2
    rw [hb _ (by omega), hb _ (by omega)]
    exact h j h1 (by omega)
  · simp only [List.length_append, List.length_cons, List.length_nil] at h3
    omega

theorem lst_cases (l : List Nd) (i : Nat) : (lst l i = i ∧ ∀ c, 0 < c → c < l.length → (c - 1) / 2 = i → (l[i]!).le l[c]!) ∨
    (0 < lst l i ∧ lst l i < l.length ∧ (lst l i - 1) / 2 = i ∧ lst l i ≠ i ∧ (l[lst l i]!).le l[i]! ∧ ∀ c, 0 < c → c < l.length → (c - 1) / 2 = i → (l[lst l i]!).le l[c]!) := by
  have e : lst l i = (if 2 * i + 1 < l.length then (if 2 * i + 2 < l.length then
      (if (l[2 * i + 2]!).lt (l[if (l[2 * i + 1]!).lt (l[i]!) then 2 * i + 1 else i]!) then 2 * i + 2 else if (l[2 * i + 1]!).lt (l[i]!) then 2 * i + 1 else i)
      else if (l[2 * i + 1]!).lt (l[i]!) then 2 * i + 1 else i) else i) := by
    unfold lst
    rw [lstGo]
    by_cases h1 : 2 * i + 1 < l.length
    · rw [if_pos ⟨by omega, h1⟩, if_pos h1, lstGo]
      by_cases h2 : 2 * i + 2 < l.length
      · rw [if_pos ⟨by omega, by omega⟩, if_pos h2, lstGo, if_neg (by omega)]
      · rw [if_neg (by omega), if_neg h2]
    · rw [if_neg (by omega), if_neg h1]
  have two : ∀ c, 0 < c → (c - 1) / 2 = i → c = 2 * i + 1 ∨ c = 2 * i + 2 := fun c h1 h2 => by omega
  by_cases h1 : 2 * i + 1 < l.length
  · rw [if_pos h1] at e
    by_cases ha : (l[2 * i + 1]!).lt (l[i]!) = true
    · rw [if_pos ha] at e
      by_cases h2 : 2 * i + 2 < l.length
      · rw [if_pos h2] at e
        by_cases hb : (l[2 * i + 2]!).lt (l[2 * i + 1]!) = true
        · rw [if_pos hb] at e
          rw [e]
          refine .inr ⟨by omega, h2, by omega, by omega, (Nd.le_of_lt hb).trans_ (Nd.le_of_lt ha), fun c c1 c2 c3 => ?_⟩
          rcases two c c1 c3 with rfl | rfl
          · exact Nd.le_of_lt hb
          · exact Nd.le_rfl _
        · rw [if_neg hb] at e
          rw [e]
          refine .inr ⟨by omega, h1, by omega, by omega, Nd.le_of_lt ha, fun c c1 c2 c3 => ?_⟩
          rcases two c c1 c3 with rfl | rfl
          · exact Nd.le_rfl _
          · exact Nd.le_of_nlt (by simpa using hb)
      · rw [if_neg h2] at e
        rw [e]
        refine .inr ⟨by omega, h1, by omega, by omega, Nd.le_of_lt ha, fun c c1 c2 c3 => ?_⟩
        rcases two c c1 c3 with rfl | rfl
        · exact Nd.le_rfl _
        · omega
    · rw [if_neg ha] at e
      by_cases h2 : 2 * i + 2 < l.length
      · rw [if_pos h2] at e
        by_cases hb : (l[2 * i + 2]!).lt (l[i]!) = true
        · rw [if_pos hb] at e
          rw [e]
          refine .inr ⟨by omega, h2, by omega, by omega, Nd.le_of_lt hb, fun c c1 c2 c3 => ?_⟩
          rcases two c c1 c3 with rfl | rfl
          · exact (Nd.le_of_lt hb).trans_ (Nd.le_of_nlt (by simpa using ha))
          · exact Nd.le_rfl _
        · rw [if_neg hb] at e
          refine .inl ⟨e, fun c c1 c2 c3 => ?_⟩
          rcases two c c1 c3 with rfl | rfl
          · exact Nd.le_of_nlt (by simpa using ha)
          · exact Nd.le_of_nlt (by simpa using hb)
      · rw [if_neg h2] at e
        refine .inl ⟨e, fun c c1 c2 c3 => ?_⟩
        rcases two c c1 c3 with rfl | rfl
        · exact Nd.le_of_nlt (by simpa using ha)
        · omega
  · rw [if_neg h1] at e
    refine .inl ⟨e, fun c c1 c2 c3 => ?_⟩
    rcases two c c1 c3 with rfl | rfl <;> omega

theorem down_ok : ∀ (k : Nat) (l : List Nd) (i : Nat), l.length ≤ i + k → DnInv l i → HpOk (down k l i) ∧ (down k l i).Perm l
  | 0, l, i, hk, h => by
    refine ⟨fun j h1 h2 => h.1 j h1 h2 ?_, List.Perm.refl _⟩
    have h2' : j < l.length := h2
    omega
  | k + 1, l, i, hk, h => by
    unfold down
    rcases lst_cases l i with ⟨e, hc⟩ | ⟨m0, ml, mp, mi, me, hc⟩
    · rw [if_pos e]
      refine ⟨fun j h1 h2 => ?_, List.Perm.refl _⟩
      by_cases hp : (j - 1) / 2 = i
      · rw [hp]; exact hc j h1 h2 hp
      · exact h.1 j h1 h2 hp
    · rw [if_neg mi]
      generalize lst l i = m at *
      have hil : i < l.length := by omega
      have hinv : DnInv (swp l i m) m := by
        refine ⟨fun j h1 h2 h3 => ?_, fun h1 c h2 h3 h4 => ?_⟩
        · rw [swp_length] at h2
          rw [swp_get l hil ml, swp_get l hil ml, if_neg h3]
          by_cases hjm : j = m
          · subst hjm
            rw [if_pos rfl, if_pos mp]
            exact me
          · rw [if_neg hjm]
            by_cases hji : j = i
            · subst hji
              rw [if_pos rfl, if_neg (by omega)]
              exact h.2 h1 m m0 ml mp
            · rw [if_neg hji]
              by_cases hq : (j - 1) / 2 = i
              · rw [if_pos hq]; exact hc j h1 h2 hq
              · rw [if_neg hq]; exact h.1 j h1 h2 hq
        · rw [swp_length] at h3
          rw [swp_get l hil ml, swp_get l hil ml, if_neg (show (m - 1) / 2 ≠ m by omega), if_pos mp, if_neg (show c ≠ m by omega), if_neg (show c ≠ i by omega)]
          have h5 := h.1 c h2 h3 (by omega)
          rw [h4] at h5
          exact h5
      have ih := down_ok k (swp l i m) m (by rw [swp_length]; omega) hinv
      exact ⟨ih.1, ih.2.trans (swp_perm l hil ml)⟩

theorem root_le {l : List Nd} (h : HpOk l) : ∀ (i : Nat), i < l.length → (l[0]!).le l[i]! := by
  intro i
  induction i using Nat.strongRecOn with
  | _ i ih =>
    intro hi
    by_cases h0 : i = 0
    · subst h0; exact Nd.le_rfl _
    · exact (ih ((i - 1) / 2) (by omega) (by omega)).trans_ (h i (by omega) hi)

theorem popped_ok (x : Nd) (l : List Nd) (h : HpOk (x :: l)) : HpOk (popped x l) ∧ (popped x l).Perm l := by
  unfold popped
  rcases List.eq_nil_or_concat l with rfl | ⟨l', z, rfl⟩
  · exact ⟨by intro j h1 h2; simp [down, lst, lstGo, swp] at h2, by simp [down, lst, lstGo, swp]⟩
  · rw [List.concat_eq_append] at h ⊢
    have hz : (x :: (l' ++ [z]))[(l' ++ [z]).length]! = z := by
      rw [bang]; simp
    have ht : ((x :: (l' ++ [z])).set 0 z).take (l' ++ [z]).length = z :: l' := by
      simp
    rw [hz, ht]
    have hg : ∀ j, 0 < j → j < l'.length + 1 → (z :: l')[j]! = (x :: (l' ++ [z]))[j]! := fun j h1 h2 => by
      obtain ⟨j, rfl⟩ : ∃ q, j = q + 1 := ⟨j - 1, by omega⟩
      rw [bang, bang, List.getElem?_cons_succ, List.getElem?_cons_succ, List.getElem?_append_left (by omega)]
    have hd := down_ok ((l' ++ [z]).length + 1) (z :: l') 0 (by simp) ⟨fun j h1 h2 h3 => ?_, fun h1 => by omega⟩
    · refine ⟨hd.1, hd.2.trans ?_⟩
      exact (List.perm_append_singleton z l').symm
    · simp only [List.length_cons] at h2
      rw [hg _ (by omega) (by omega), hg j h1 (by omega)]
      exact h j h1 (by simp; omega)

/-- What is held: the values in the order of putting in. -/
structure Holds (l L : List Nd) (t : Int) : Prop where
  ok : HpOk l
  perm : l.Perm L
  turns : L.Pairwise (fun x y => x.turn < y.turn)
  below : ∀ x ∈ L, x.turn < t
theorem Holds.nil (t : Int) : Holds [] [] t := ⟨fun j h1 h2 => by simp at h2, List.Perm.refl _, List.Pairwise.nil, by simp⟩
theorem Holds.push {l L : List Nd} {t : Int} (h : Holds l L t) (k v : Int) : Holds (up (l.length + 1) (l ++ [⟨k, t, v⟩]) l.length) (L ++ [⟨k, t, v⟩]) (t + 1) := by
  have hp := push_ok l ⟨k, t, v⟩ h.ok
  refine ⟨hp.1, hp.2.trans (h.perm.append_right _), ?_, fun x hx => ?_⟩
  · rw [List.pairwise_append]
    refine ⟨h.turns, List.pairwise_singleton _ _, fun a ha b hb => ?_⟩
    simp only [List.mem_singleton] at hb
    subst hb
    exact h.below a ha
  · rcases List.mem_append.1 hx with h1 | h1
    · have := h.below x h1; omega
    · simp only [List.mem_singleton] at h1
      subst h1
      show t < t + 1
      omega
def toIt (x : Nd) : It := ⟨x.key, x.val⟩
/-- The document's place of the first: of the least key, of equals the earliest. -/
theorem fst_spec (R : List It) (hR : R ≠ []) : ∃ m : Nat, fst R = (m : Int) ∧ m < R.length ∧ (∀ j, j < R.length → (R[m]!).key ≤ (R[j]!).key) ∧ (∀ j, j < m → (R[m]!).key < (R[j]!).key) := by
  have key : ∀ (k : Nat) (b i : Nat), b < i → i ≤ R.length → R.length ≤ i + k → (∀ j, j < i → (R[b]!).key ≤ (R[j]!).key) → (∀ j, j < b → (R[b]!).key < (R[j]!).key) →
      ∃ m : Nat, fstGo R k (b : Int) i = (m : Int) ∧ m < R.length ∧ (∀ j, j < R.length → (R[m]!).key ≤ (R[j]!).key) ∧ (∀ j, j < m → (R[m]!).key < (R[j]!).key) := by
    intro k
    induction k with
    | zero => exact fun b i h1 h2 h3 h4 h5 => ⟨b, rfl, by omega, fun j hj => h4 j (by omega), h5⟩
    | succ k ih =>
      intro b i h1 h2 h3 h4 h5
      unfold fstGo
      by_cases hi : i < R.length
      · rw [if_pos hi]
        by_cases hc : (R[i]!).key < (R[(b : Int).toNat]!).key
        · rw [if_pos (.inr hc)]
          rw [Int.toNat_natCast] at hc
          refine ih i (i + 1) (by omega) (by omega) (by omega) (fun j hj => ?_) (fun j hj => ?_)
          · by_cases hji : j = i
            · subst hji; omega
            · have := h4 j (by omega); omega
          · have := h4 j hj; omega
        · rw [if_neg (by omega)]
          rw [Int.toNat_natCast] at hc
          refine ih b (i + 1) (by omega) (by omega) (by omega) (fun j hj => ?_) h5
          by_cases hji : j = i
          · subst hji; omega
          · exact h4 j (by omega)
      · rw [if_neg hi]
        exact ⟨b, rfl, by omega, fun j hj => h4 j (by omega), h5⟩
  obtain ⟨x, R', rfl⟩ := List.exists_cons_of_ne_nil hR
  unfold fst
  rw [show (x :: R').length = R'.length + 1 from rfl, fstGo, if_pos (by simp), if_pos (.inl (by omega))]
  exact key R'.length 0 1 (by omega) (by simp) (by simp; omega) (fun j hj => by rw [show j = 0 by omega]; exact Int.le_refl _) (fun j hj => by omega)
theorem Holds.pop {x : Nd} {l L : List Nd} {t : Int} (h : Holds (x :: l) L t) : ∃ m : Nat, fst (L.map toIt) = (m : Int) ∧ L[m]? = some x ∧ Holds (popped x l) (L.eraseIdx m) t := by
  have hLl : L.length = l.length + 1 := h.perm.length_eq.symm
  have hL : L.map toIt ≠ [] := by
    intro e
    have := congrArg List.length e
    simp at this
    rw [this] at hLl
    simp at hLl
  obtain ⟨m, hm, hml, hmin, hfst⟩ := fst_spec _ hL
  rw [List.length_map] at hml hmin
  have gk : ∀ j, j < L.length → ((L.map toIt)[j]!).key = (L[j]!).key := fun j hj => by
    rw [List.getElem!_eq_getElem?_getD, List.getElem!_eq_getElem?_getD, List.getElem?_map, List.getElem?_eq_getElem hj]
    rfl
  have hxL : x ∈ L := h.perm.mem_iff.1 (by simp)
  obtain ⟨q, hq, hxq⟩ := List.getElem_of_mem hxL
  have gq : L[q]! = x := by rw [bang, List.getElem?_eq_getElem hq, hxq]; rfl
  have hle : ∀ y ∈ L, x.le y := fun y hy => by
    obtain ⟨i, hi, rfl⟩ := List.getElem_of_mem (h.perm.mem_iff.2 hy)
    have := root_le h.ok i hi
    rw [bang, bang, List.getElem?_eq_getElem hi] at this
    exact this
  have turn : ∀ a b, a < b → b < L.length → (L[a]!).turn < (L[b]!).turn := fun a b hab hb => by
    have := List.pairwise_iff_getElem.1 h.turns a b (by omega) hb hab
    rw [bang, bang, List.getElem?_eq_getElem hb, List.getElem?_eq_getElem (show a < L.length by omega)]
    exact this
  have hqm : q = m := by
    have h1 := hmin q hq
    rw [gk m hml, gk q hq, gq] at h1
    have hmem : L[m]! ∈ L := by
      rw [bang, List.getElem?_eq_getElem hml]
      exact List.getElem_mem hml
    have h2 := Nd.le_iff.1 (hle _ hmem)
    rcases Nat.lt_trichotomy q m with h3 | h3 | h3
    · have h4 := hfst q h3
      rw [gk m hml, gk q hq, gq] at h4
      omega
    · exact h3
    · have h4 := turn m q h3 hq
      rw [gq] at h4
      omega
  subst hqm
  have hp := popped_ok x l h.ok
  have he : (L[q] :: L.eraseIdx q).Perm L := get_perm _ _ hq
  rw [hxq] at he
  refine ⟨q, hm, by rw [List.getElem?_eq_getElem hq, hxq], hp.1, hp.2.trans (List.Perm.cons_inv (h.perm.trans he.symm)), h.turns.sublist (List.eraseIdx_sublist _ _), fun y hy => h.below y (List.mem_of_mem_eraseIdx hy)⟩
theorem toIt_erase (L : List Nd) (m : Nat) : (L.eraseIdx m).map toIt = (L.map toIt).eraseIdx m := by
  induction L generalizing m with
  | nil => simp
  | cons x L ih => cases m <;> simp [ih]
end Go.Proofs.Ytekcpcipbccodaa.Mem
