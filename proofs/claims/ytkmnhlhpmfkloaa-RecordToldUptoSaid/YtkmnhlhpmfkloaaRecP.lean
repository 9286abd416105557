/- Records in plain Lean: numbers and their bytes, fields that are joined and split. -/
import Derived.Test.YtkmnhlhpmfkloaaFldL
import Derived.Test.YtkmnhlhpmfkloaaFldN
import Derived.Test.YtkmnhlhpmfkloaaFldP
namespace Go.Proofs.Ytkmnhlhpmfkloaa.Fld
open Go.RowKit Go.Proofs.YtkmnhlhpmfkloaaW.PrintWords Go.Proofs.YtkmnhlhpmfkloaaW.PrintLast Go.Proofs.YtkmnhlhpmfkloaaW.PrintMore Go.Proofs.Ytkmnhlhpmfkloaa.Mem
set_option linter.unusedVariables false
set_option linter.unusedSimpArgs false

/-! #### numbers -/
theorem nm_le : ∀ (n : Nat) (v : Int), 0 ≤ v → v < (256 : Int) ^ n → nm (le n v) = v
  | 0, v, h0, h1 => by simp at h1; simp only [le, nm]; omega
  | n + 1, v, h0, h1 => by
    rw [Int.pow_succ] at h1
    rw [le, nm, nm_le n (v / 256) (by omega) (by omega)]
    omega
theorem le_nm : ∀ (l : List Int), (∀ x ∈ l, 0 ≤ x ∧ x < 256) → le l.length (nm l) = l
  | [], _ => rfl
  | b :: t, h => by
    have h1 := h b List.mem_cons_self
    have h2 := nm_range t (fun x hx => h x (List.mem_cons_of_mem _ hx))
    have e1 : (b + 256 * nm t) % 256 = b := by omega
    have e2 : (b + 256 * nm t) / 256 = nm t := by omega
    rw [List.length_cons, nm, le, e1, e2, le_nm t (fun x hx => h x (List.mem_cons_of_mem _ hx))]
theorem le_mem : ∀ (n : Nat) (v : Int), ∀ x ∈ le n v, 0 ≤ x ∧ x < 256
  | 0, _, x, hx => by simp [le] at hx
  | n + 1, v, x, hx => by
    rw [le, List.mem_cons] at hx
    rcases hx with rfl | hx
    · omega
    · exact le_mem n _ x hx
theorem bytes_mem (s : ByteArray) : ∀ x ∈ bytesOf s, 0 ≤ x ∧ x < 256 := by
  intro x hx
  rw [bytesOf, List.mem_map] at hx
  obtain ⟨b, _, rfl⟩ := hx
  have := b.toNat_lt
  omega
theorem bytesOf_str (l : List Int) (h : ∀ x ∈ l, 0 ≤ x ∧ x < 256) : bytesOf (strOfNums l) = l := by
  unfold bytesOf strOfNums
  simp only [List.map_map]
  conv => rhs; rw [← List.map_id l]
  refine List.map_congr_left fun x hx => ?_
  have := h x hx
  simp only [Function.comp, UInt8.toNat_ofNat', id]
  omega
theorem str_bytesOf (s : ByteArray) : strOfNums (bytesOf s) = s := by
  apply byteArray_ext
  unfold strOfNums bytesOf
  simp only [List.map_map]
  have h : ((fun n : Int => UInt8.ofNat n.toNat) ∘ fun b : UInt8 => (b.toNat : Int)) = id := by
    funext x
    simp
  rw [h, List.map_id]
theorem str_size (l : List Int) : (strOfNums l).size = l.length := by
  unfold strOfNums
  simp [ByteArray.size]
theorem str_append (a b : List Int) : strOfNums (a ++ b) = strOfNums a ++ strOfNums b := by
  apply byteArray_ext
  unfold strOfNums
  simp [ByteArray.data_append]
theorem str_inj {a b : List Int} (ha : ∀ x ∈ a, 0 ≤ x ∧ x < 256) (hb : ∀ x ∈ b, 0 ≤ x ∧ x < 256) (h : strOfNums a = strOfNums b) : a = b := by
  rw [← bytesOf_str a ha, h, bytesOf_str b hb]

/-! #### fields -/
def fldB (f : Int × ByteArray) : List Int := le 2 f.1 ++ le 2 f.2.size ++ bytesOf f.2
def allB (fs : List (Int × ByteArray)) : List Int := fs.flatMap fldB
theorem fldB_len (f : Int × ByteArray) : (fldB f).length = 4 + f.2.size := by
  unfold fldB
  rw [List.length_append, List.length_append, le_length, le_length, bytesOf_length]
theorem fldB_mem (f : Int × ByteArray) : ∀ x ∈ fldB f, 0 ≤ x ∧ x < 256 := by
  intro x hx
  unfold fldB at hx
  rcases List.mem_append.1 hx with hx | hx
  · rcases List.mem_append.1 hx with hx | hx
    · exact le_mem _ _ x hx
    · exact le_mem _ _ x hx
  · exact bytes_mem _ x hx
theorem allB_mem (fs : List (Int × ByteArray)) : ∀ x ∈ allB fs, 0 ≤ x ∧ x < 256 := by
  intro x hx
  unfold allB at hx
  obtain ⟨f, _, hx⟩ := List.mem_flatMap.1 hx
  exact fldB_mem f x hx
def fitF (f : Int × ByteArray) : Prop := 0 ≤ f.1 ∧ f.1 ≤ 65535 ∧ (f.2.size : Int) ≤ 65535
/-- The document's answer of joining, from the bytes that are told already. -/
def joinS : List Int → List (Int × ByteArray) → List Int × Int
  | l, [] => (l, 0)
  | l, f :: fs => if ¬ (0 ≤ f.1 ∧ f.1 ≤ 65535) ∨ 65535 < (f.2.size : Int) then ([], 124) else if 65535 < ((l ++ fldB f).length : Int) then ([], 124) else joinS (l ++ fldB f) fs
theorem joinB_cons (b : BS) (f : Int × ByteArray) (fs : List (Int × ByteArray)) : joinB b (f :: fs) = joinB (((b.num f.1 2).num f.2.size 2).text f.2) fs := rfl
theorem joinB_err : ∀ (fs : List (Int × ByteArray)) (b : BS), b.err ≠ 0 → joinB b fs = b
  | [], b, _ => rfl
  | f :: fs, b, h => by
    rw [joinB_cons, BS.num_err h, BS.num_err h, BS.text_err h, joinB_err fs b h]
theorem ans_err {b : BS} (h : b.err ≠ 0) : b.ans = ([], 124) := if_neg h
theorem num_bad {b : BS} {v : Int} {n : Nat} (h : ¬ (0 ≤ v ∧ v < 256 ^ n) ∨ b.lim - b.l.length < n) : (b.num v n).err ≠ 0 := by
  unfold BS.num
  split
  · assumption
  · split
    · simp
    · rename_i h1
      rw [if_pos (by rcases h with h | h <;> omega)]
      simp
theorem num_fit {l : List Int} {lim v : Int} {n : Nat} (h0 : 0 ≤ v) (h1 : v < 256 ^ n) (h2 : (l.length : Int) + n ≤ lim) : (BS.mk l lim 0).num v n = ⟨l ++ le n v, lim, 0⟩ := by
  unfold BS.num
  rw [if_neg (by simp), if_neg (by omega), if_neg (by simp only; omega)]
theorem text_bad {b : BS} {s : ByteArray} (h : b.lim - b.l.length < s.size) : (b.text s).err ≠ 0 := by
  unfold BS.text
  split
  · assumption
  · simp
theorem text_fit {l : List Int} {lim : Int} {s : ByteArray} (h2 : (l.length : Int) + s.size ≤ lim) : (BS.mk l lim 0).text s = ⟨l ++ bytesOf s, lim, 0⟩ := by
  unfold BS.text
  rw [if_neg (by simp), if_neg (by simp only; omega)]
theorem num_stay {b : BS} {v : Int} {n : Nat} (h : b.err ≠ 0) : (b.num v n).err ≠ 0 := by rw [BS.num_err h]; exact h
theorem text_stay {b : BS} {s : ByteArray} (h : b.err ≠ 0) : (b.text s).err ≠ 0 := by rw [BS.text_err h]; exact h
theorem joinB_ans : ∀ (fs : List (Int × ByteArray)) (l : List Int), (l.length : Int) ≤ 65535 → (joinB ⟨l, 65535, 0⟩ fs).ans = joinS l fs
  | [], l, _ => if_pos rfl
  | f :: fs, l, hl => by
    rw [joinB_cons, joinS]
    by_cases h1 : ¬ (0 ≤ f.1 ∧ f.1 ≤ 65535) ∨ 65535 < (f.2.size : Int)
    · rw [if_pos h1]
      have he : (((BS.mk l 65535 0).num f.1 2).num f.2.size 2).err ≠ 0 := by
        rcases h1 with h1 | h1
        · exact num_stay (num_bad (.inl (by omega)))
        · exact num_bad (.inl (by omega))
      rw [joinB_err _ _ (text_stay he), ans_err (text_stay he)]
    · rw [if_neg h1]
      by_cases h2 : 65535 < ((l ++ fldB f).length : Int)
      · rw [if_pos h2]
        rw [List.length_append, fldB_len] at h2
        have he : ((((BS.mk l 65535 0).num f.1 2).num f.2.size 2).text f.2).err ≠ 0 := by
          by_cases h3 : (l.length : Int) + 2 ≤ 65535
          · rw [num_fit (by omega) (by omega) (by omega)]
            by_cases h4 : (l.length : Int) + 4 ≤ 65535
            · rw [num_fit (by omega) (by omega) (by rw [List.length_append, le_length]; omega)]
              refine text_bad ?_
              simp only [List.length_append, le_length]
              omega
            · refine text_stay (num_bad (.inr ?_))
              simp only [List.length_append, le_length]
              omega
          · refine text_stay (num_stay (num_bad (.inr ?_)))
            simp only
            omega
        rw [joinB_err _ _ he, ans_err he]
      · rw [if_neg h2]
        rw [List.length_append, fldB_len] at h2
        rw [num_fit (by omega) (by omega) (by omega), num_fit (by omega) (by omega) (by rw [List.length_append, le_length]; omega), text_fit (by simp only [List.length_append, le_length]; omega)]
        have hass : l ++ le 2 f.1 ++ le 2 (f.2.size : Int) ++ bytesOf f.2 = l ++ fldB f := by unfold fldB; simp only [List.append_assoc]
        rw [hass]
        exact joinB_ans fs _ (by rw [List.length_append, fldB_len]; omega)
theorem joinS_fit : ∀ (fs : List (Int × ByteArray)) (l : List Int), (∀ f ∈ fs, fitF f) → ((l ++ allB fs).length : Int) ≤ 65535 → joinS l fs = (l ++ allB fs, 0)
  | [], l, _, _ => by simp [joinS, allB]
  | f :: fs, l, h, hl => by
    have hf := h f List.mem_cons_self
    have e : allB (f :: fs) = fldB f ++ allB fs := rfl
    rw [e, ← List.append_assoc] at hl ⊢
    rw [joinS, if_neg (by unfold fitF at hf; omega), if_neg (by rw [List.length_append] at hl; omega)]
    exact joinS_fit fs _ (fun g hg => h g (List.mem_cons_of_mem _ hg)) hl

/-! #### splitting -/
theorem next_ok {l : List Int} {a n : Nat} (h : a + n ≤ l.length) : (CS.mk l a 0).next n = (l.take (a + n)).drop a ∧ (CS.mk l a 0).adv n = ⟨l, a + n, 0⟩ := by
  unfold CS.next CS.adv
  simp only
  rw [if_neg (by simp), if_neg (by omega), if_neg (by simp), if_neg (by omega)]
  exact ⟨rfl, rfl⟩
theorem adv_short {l : List Int} {a n : Nat} (h : l.length < a + n) (ha : a ≤ l.length) : ((CS.mk l a 0).adv n).err ≠ 0 := by
  unfold CS.adv
  simp only
  rw [if_neg (by simp), if_pos (by omega)]
  simp
theorem adv_bad {c : CS} {n : Nat} (h : c.err ≠ 0) : (c.adv n).err ≠ 0 := by
  unfold CS.adv
  rw [if_pos h]
  exact h
theorem split_eq (l : List Int) (hy : ∀ x ∈ l, 0 ≤ x ∧ x < 256) : ∀ (k a : Nat) (acc : List (Int × ByteArray)), a ≤ l.length → splitGo k ⟨l, a, 0⟩ acc = rsplitGo l k a acc
  | 0, a, acc, _ => rfl
  | k + 1, a, acc, ha => by
    by_cases h : a < l.length
    · rw [splitGo_step k ⟨l, a, 0⟩ acc h]
      by_cases h4 : (l.length : Int) - a < 4
      · rw [rsplitGo_bad l k a acc h h4]
        refine if_pos (adv_bad ?_)
        by_cases h2 : a + 2 ≤ l.length
        · rw [(next_ok h2).2]
          exact adv_short (by omega) (by omega)
        · exact adv_bad (adv_short (by omega) (by omega))
      · rw [(next_ok (by omega : a + 2 ≤ l.length)).1, (next_ok (by omega : a + 2 ≤ l.length)).2, (next_ok (by omega : a + 2 + 2 ≤ l.length)).1, (next_ok (by omega : a + 2 + 2 ≤ l.length)).2]
        have hnn := nm_range ((l.take (a + 2 + 2)).drop (a + 2)) (fun x hx => hy x (List.mem_of_mem_take (List.mem_of_mem_drop hx)))
        obtain ⟨n, hn⟩ : ∃ n : Nat, nm ((l.take (a + 2 + 2)).drop (a + 2)) = (n : Int) := ⟨_, (Int.toNat_of_nonneg hnn.1).symm⟩
        rw [hn, Int.toNat_natCast]
        by_cases h5 : (l.length : Int) - a - 4 < n
        · rw [rsplitGo_short l k a acc n h h4 hn h5]
          exact if_pos (adv_short (by omega) (by omega))
        · rw [rsplitGo_step l k a acc n h h4 hn h5, (next_ok (by omega : a + 2 + 2 + n ≤ l.length)).1, (next_ok (by omega : a + 2 + 2 + n ≤ l.length)).2]
          rw [if_neg (by simp)]
          rw [show a + 2 + 2 = a + 4 by omega]
          exact split_eq l hy k _ _ (by omega)
    · rw [splitGo_end _ _ _ h, rsplitGo_end _ _ _ _ h]
theorem splitF_eq (s : ByteArray) : splitF s = rsplitF s := by
  unfold splitF rsplitF
  split
  · rfl
  · exact split_eq _ (bytes_mem s) _ _ _ (Nat.zero_le _)
theorem cut_exact {α : Type} (p x y : List α) (n : Nat) (hn : x.length = n) : ((p ++ (x ++ y)).take (p.length + n)).drop p.length = x := by
  rw [List.take_length_add_append, List.drop_left, ← hn, List.take_left]
theorem cut_drop {α : Type} (l : List α) (a n : Nat) : l.drop a = (l.take (a + n)).drop a ++ l.drop (a + n) := by
  rw [List.drop_take, Nat.add_sub_cancel_left, ← List.drop_drop, List.take_append_drop]
/-- What is joined is split as it was. -/
theorem split_join : ∀ (fs : List (Int × ByteArray)) (p : List Int) (k : Nat) (acc : List (Int × ByteArray)), (∀ f ∈ fs, fitF f) → (∀ x ∈ p, 0 ≤ x ∧ x < 256) → (allB fs).length < k → rsplitGo (p ++ allB fs) k p.length acc = (acc ++ fs, 0)
  | [], p, k, acc, _, _, _ => by rw [rsplitGo_end _ _ _ _ (by simp [allB])]; simp
  | f :: fs, p, k, acc, h, hp, hk => by
    obtain ⟨k, rfl⟩ : ∃ q, k = q + 1 := ⟨k - 1, by omega⟩
    have hf := h f List.mem_cons_self
    have e : allB (f :: fs) = fldB f ++ allB fs := rfl
    have hfl := fldB_len f
    have hL : p ++ allB (f :: fs) = p ++ (le 2 f.1 ++ (le 2 f.2.size ++ (bytesOf f.2 ++ allB fs))) := by rw [e]; unfold fldB; simp only [List.append_assoc]
    have hL2 : p ++ allB (f :: fs) = (p ++ le 2 f.1) ++ (le 2 f.2.size ++ (bytesOf f.2 ++ allB fs)) := by rw [hL, List.append_assoc]
    have hL3 : p ++ allB (f :: fs) = (p ++ le 2 f.1 ++ le 2 f.2.size) ++ (bytesOf f.2 ++ allB fs) := by rw [hL]; simp only [List.append_assoc]
    have hL4 : p ++ allB (f :: fs) = (p ++ fldB f) ++ allB fs := by rw [e, List.append_assoc]
    have hlen : (p ++ allB (f :: fs)).length = p.length + (4 + f.2.size) + (allB fs).length := by rw [hL4, List.length_append, List.length_append, hfl]
    have c1 : ((p ++ allB (f :: fs)).take (p.length + 2)).drop p.length = le 2 f.1 := by rw [hL]; exact cut_exact _ _ _ _ (le_length _ _)
    have c2 : ((p ++ allB (f :: fs)).take (p.length + 2 + 2)).drop (p.length + 2) = le 2 f.2.size := by
      have h := cut_exact (p ++ le 2 f.1) (le 2 (f.2.size : Int)) (bytesOf f.2 ++ allB fs) 2 (le_length _ _)
      rw [← hL2, List.length_append, le_length] at h
      exact h
    have c3 : ((p ++ allB (f :: fs)).take (p.length + 4 + f.2.size)).drop (p.length + 4) = bytesOf f.2 := by
      have h := cut_exact (p ++ le 2 f.1 ++ le 2 (f.2.size : Int)) (bytesOf f.2) (allB fs) f.2.size (bytesOf_length _)
      rw [← hL3, List.length_append, List.length_append, le_length, le_length] at h
      exact h
    unfold fitF at hf
    have n2 : nm (((p ++ allB (f :: fs)).take (p.length + 2 + 2)).drop (p.length + 2)) = (f.2.size : Int) := by rw [c2]; exact nm_le 2 _ (by omega) (by omega)
    rw [rsplitGo_step _ k p.length acc f.2.size (by omega) (by omega) n2 (by omega), c1, nm_le 2 _ hf.1 (by omega), c3, str_bytesOf]
    rw [hL4]
    have h5 : p.length + 4 + f.2.size = (p ++ fldB f).length := by rw [List.length_append, hfl]; omega
    rw [h5, split_join fs (p ++ fldB f) k _ (fun g hg => h g (List.mem_cons_of_mem _ hg)) (fun x hx => by
      rcases List.mem_append.1 hx with hx | hx
      · exact hp x hx
      · exact fldB_mem f x hx) (by rw [e, List.length_append, hfl] at hk; omega)]
    simp
/-- What is split joins to what it was. -/
theorem join_split (l : List Int) (hy : ∀ x ∈ l, 0 ≤ x ∧ x < 256) : ∀ (k a : Nat) (acc r : List (Int × ByteArray)), a ≤ l.length → l.length < a + k → rsplitGo l k a acc = (r, 0) → (∀ f ∈ acc, fitF f) → (∀ f ∈ r, fitF f) ∧ allB r = allB acc ++ l.drop a
  | 0, a, acc, r, ha, hk, h, hacc => by omega
  | k + 1, a, acc, r, ha, hk, h, hacc => by
    by_cases h1 : a < l.length
    · by_cases h4 : (l.length : Int) - a < 4
      · rw [rsplitGo_bad l k a acc h1 h4] at h
        simp at h
      · have hm2 : ∀ x ∈ (l.take (a + 2 + 2)).drop (a + 2), 0 ≤ x ∧ x < 256 := fun x hx => hy x (List.mem_of_mem_take (List.mem_of_mem_drop hx))
        have hm1 : ∀ x ∈ (l.take (a + 2)).drop a, 0 ≤ x ∧ x < 256 := fun x hx => hy x (List.mem_of_mem_take (List.mem_of_mem_drop hx))
        have hl1 := mid_len (l := l) (a := a) (n := 2) (by omega)
        have hl2 := mid_len (l := l) (a := a + 2) (n := 2) (by omega)
        have hnn := nm_range _ hm2
        have htn := nm_range _ hm1
        rw [hl2] at hnn
        rw [hl1] at htn
        obtain ⟨n, hn⟩ : ∃ n : Nat, nm ((l.take (a + 2 + 2)).drop (a + 2)) = (n : Int) := ⟨_, (Int.toNat_of_nonneg hnn.1).symm⟩
        by_cases h5 : (l.length : Int) - a - 4 < n
        · rw [rsplitGo_short l k a acc n h1 h4 hn h5] at h
          simp at h
        · rw [rsplitGo_step l k a acc n h1 h4 hn h5] at h
          have hl3 := mid_len (l := l) (a := a + 4) (n := n) (by omega)
          have hm3 : ∀ x ∈ (l.take (a + 4 + n)).drop (a + 4), 0 ≤ x ∧ x < 256 := fun x hx => hy x (List.mem_of_mem_take (List.mem_of_mem_drop hx))
          have hfit : fitF (nm ((l.take (a + 2)).drop a), strOfNums ((l.take (a + 4 + n)).drop (a + 4))) := ⟨htn.1, by simp only; omega, by simp only [str_size, hl3]; omega⟩
          obtain ⟨r1, r2⟩ := join_split l hy k (a + 4 + n) _ r (by omega) (by omega) h (fun f hf => by
            rcases List.mem_append.1 hf with hf | hf
            · exact hacc f hf
            · rw [List.mem_singleton.1 hf]; exact hfit)
          refine ⟨r1, ?_⟩
          rw [r2]
          unfold allB
          rw [List.flatMap_append, List.append_assoc]
          congr 1
          simp only [List.flatMap_cons, List.flatMap_nil, List.append_nil]
          unfold fldB
          simp only [str_size, hl3, bytesOf_str _ hm3]
          have q1 : le 2 (nm ((l.take (a + 2)).drop a)) = (l.take (a + 2)).drop a := by have h := le_nm _ hm1; rw [hl1] at h; exact h
          have q2 : le 2 (n : Int) = (l.take (a + 2 + 2)).drop (a + 2) := by rw [← hn]; have h := le_nm _ hm2; rw [hl2] at h; exact h
          rw [q1, q2, List.append_assoc, List.append_assoc]
          rw [show l.drop a = (l.take (a + 2)).drop a ++ l.drop (a + 2) from cut_drop l a 2]
          congr 1
          rw [show l.drop (a + 2) = (l.take (a + 2 + 2)).drop (a + 2) ++ l.drop (a + 2 + 2) from cut_drop l (a + 2) 2]
          congr 1
          exact (cut_drop l (a + 4) n).symm
    · rw [rsplitGo_end _ _ _ _ h1] at h
      simp only [Prod.mk.injEq, and_true] at h
      subst h
      exact ⟨hacc, by rw [List.drop_eq_nil_of_le (by omega), List.append_nil]⟩
end Go.Proofs.Ytkmnhlhpmfkloaa.Fld
