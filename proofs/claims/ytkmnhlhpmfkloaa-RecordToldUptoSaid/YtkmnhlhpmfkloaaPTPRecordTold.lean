/- RecordTold: the pure statement, proved: a descriptor that is put is found where it stands, and of just its own numbers. -/
import Derived.Test.YtkmnhlhpmfkloaaPTQRecordTold
import Derived.Test.YtkmnhlhpmfkloaaPur
import Derived.Test.YtkmnhlhpmfkloaaRecP
import Derived.Test.YtkmnhlhpmfkloaaGds
namespace Go.Proofs.Ytkmnhlhpmfkloaa.PT.Pure
open Go.RowKit Go.Proofs.Ytkmnhlhpmfkloaa Go.Proofs.YtkmnhlhpmfkloaaW.PrintWords Go.Proofs.YtkmnhlhpmfkloaaW.PrintLast Go.Proofs.YtkmnhlhpmfkloaaW.PrintMore Go.Proofs.Ytkmnhlhpmfkloaa.Pur Go.Proofs.Ytkmnhlhpmfkloaa.PT Go.Proofs.Ytkmnhlhpmfkloaa.Fld
set_option linter.unusedVariables false

theorem copied_ev (l : List Int) (hl : l.length ≤ 140737488355328) : Ev (fun k => valiselaw12_copied.f k l) l := by
  have key : ∀ (d i : Nat) (acc : List Int), i + d = l.length → acc = l.take i → Ev (fun k => valiselaw12_copied.l0 k l acc (i : Int)) l := by
    intro d
    induction d with
    | zero =>
      intro i acc hd ha
      refine Ev.step (fun k => valiselaw12_copied.l0.eq_2 ..) (neg (by omega) (done ?_))
      rw [ha, List.take_of_length_le (by omega)]
    | succ d ih =>
      intro i acc hd ha
      refine Ev.step (fun k => valiselaw12_copied.l0.eq_2 ..) (pos (by omega) (pos (by omega) (pos (by rw [ha, List.length_take]; omega) ?_)))
      rw [w64 (x := (i : Int) + 1) (by omega) (by omega)]
      refine ih (i + 1) _ (by omega) ?_
      rw [ha, take_rd _ _ (by omega)]
  exact key l.length 0 [] (by omega) (by simp)
theorem joined_ev (a b : List Int) (hl : a.length + b.length ≤ 140737488355328) : Ev (fun k => valiselaw12_joined.f k a b) (a ++ b) := by
  have key : ∀ (d i : Nat) (acc : List Int), i + d = b.length → acc = a ++ b.take i → Ev (fun k => valiselaw12_joined.l0 k b acc (i : Int)) (a ++ b) := by
    intro d
    induction d with
    | zero =>
      intro i acc hd ha
      refine Ev.step (fun k => valiselaw12_joined.l0.eq_2 ..) (neg (by omega) (done ?_))
      rw [ha, List.take_of_length_le (by omega)]
    | succ d ih =>
      intro i acc hd ha
      refine Ev.step (fun k => valiselaw12_joined.l0.eq_2 ..) (pos (by omega) (pos (by omega) (pos (by rw [ha, List.length_append, List.length_take]; omega) ?_)))
      rw [w64 (x := (i : Int) + 1) (by omega) (by omega)]
      refine ih (i + 1) _ (by omega) ?_
      rw [ha, List.append_assoc, take_rd _ _ (by omega)]
  exact Ev.bind (copied_ev a (by omega)) (key b.length 0 a (by omega) (by simp))
theorem is32_f (v : Int) : valiselaw12_is32.f v = some (decide (0 ≤ v ∧ v ≤ 4294967295)) := by
  unfold valiselaw12_is32.f
  by_cases h : v ≥ 0
  · rw [if_pos h]; congr 1; simp; omega
  · rw [if_neg h]; congr 1; symm; rw [decide_eq_false_iff_not]; omega
abbrev By (l : List Int) : Prop := ∀ x ∈ l, 0 ≤ x ∧ x < 256
theorem by_app {a b : List Int} (ha : By a) (hb : By b) : By (a ++ b) := fun x hx => by
  rcases List.mem_append.1 hx with h | h
  · exact ha x h
  · exact hb x h
theorem hasP_self (p r : List Int) : hasP (p ++ r) p = true := by
  unfold hasP
  rw [List.take_left' rfl]
  exact beq_self_eq_true _
theorem toList_inj {a b : ByteArray} : a.toList = b.toList ↔ a = b := by
  refine ⟨fun h => ?_, fun h => by rw [h]⟩
  obtain ⟨⟨x⟩⟩ := a
  obtain ⟨⟨y⟩⟩ := b
  simp at h
  rw [h]
theorem hasP_eq {a p : List Int} (ha : By a) (hp : By p) (h : hasP a p = true) : a.take p.length = p := by
  unfold hasP at h
  have h1 := toList_inj.1 (eq_of_beq h)
  have h2 := congrArg bytesOf h1
  rw [bytesOf_str _ (fun x hx => ha x (List.mem_of_mem_take hx)), bytesOf_str _ hp] at h2
  exact h2
/-- What stands in front: the first four bytes. -/
theorem hasP_head {x y : Int} {t u : List Int} (hx : 0 ≤ x) (hx2 : x < 4294967296) (hy : 0 ≤ y) (hy2 : y < 4294967296) (ht : By t) (hu : By u) (h : hasP (le 4 x ++ t) (le 4 y ++ u) = true) : x = y := by
  have h1 := hasP_eq (by_app (le_mem 4 x) ht) (by_app (le_mem 4 y) hu) h
  have h2 := congrArg (List.take 4) h1
  rw [List.take_take, List.length_append, le_length, Nat.min_eq_left (by omega), List.take_left' (le_length 4 x), List.take_left' (le_length 4 y)] at h2
  rw [← nm_le 4 x hx (by omega), h2, nm_le 4 y hy (by omega)]
theorem xor_one (s : Int) (h0 : 0 ≤ s) (h1 : s < 4294967296) : ∃ m : Nat, Go.bits .xor .u32 s 1 = ((m ^^^ 1 : Nat) : Int) ∧ s = (m : Int) ∧ m ^^^ 1 < 4294967296 := by
  obtain ⟨m, rfl⟩ : ∃ m : Nat, s = (m : Int) := ⟨s.toNat, by omega⟩
  have hx : m ^^^ 1 < 2 ^ 32 := Nat.xor_lt_two_pow (by omega) (by omega)
  refine ⟨m, ?_, rfl, by omega⟩
  have o : ∀ a : Nat, a < 4294967296 → (BitVec.ofInt 32 (a : Int)).toNat = a := fun a ha => by
    rw [BitVec.ofInt_natCast, BitVec.toNat_ofNat]; exact Nat.mod_eq_of_lt (by omega)
  show IntKind.u32.wrap ((BitVec.ofInt 32 (m : Int) ^^^ BitVec.ofInt 32 ((1 : Nat) : Int)).toNat : Int) = _
  rw [BitVec.toNat_xor, o m (by omega), o 1 (by omega), IntKind.wrap_u32]
  omega
theorem xor_ne (m : Nat) : m ^^^ 1 ≠ m := by
  intro h
  have h2 := congrArg (fun z => z ^^^ m) h
  simp only [Nat.xor_self] at h2
  rw [Nat.xor_comm m 1, Nat.xor_assoc, Nat.xor_self] at h2
  simp at h2
theorem xor_sig {m : Nat} (h : m ^^^ 1 = 134695760) : m = 134695761 := by
  have h2 := congrArg (fun z => z ^^^ 1) h
  simp only [Nat.xor_assoc, Nat.xor_self, Nat.xor_zero] at h2
  rw [h2]
  rfl

variable (f0 f1 f2 f3 f4 : Int) (f8 f9 : ByteArray)
theorem desc_no {s p z : Int} {g : Bool} (h : ¬ (0 ≤ p ∧ p ≤ 4294967295) ∨ ¬ (0 ≤ z ∧ z ≤ 4294967295)) : (descB f0 f1 f2 f3 f4 s p z f8 f9 g).ans = ([], 124) := by
  unfold BS.ans
  rw [if_neg]
  intro he
  unfold descB at he
  obtain ⟨e3, x3, y3, z3⟩ := gnum_ok he
  obtain ⟨e2, x2, y2, z2⟩ := gnum_ok e3
  omega
def d12 (s p z : Int) : List Int := le 4 s ++ (le 4 p ++ le 4 z)
theorem d12_len (s p z : Int) : (d12 s p z).length = 12 := by simp [d12, le_length]
theorem d12_by (s p z : Int) : By (d12 s p z) := by_app (le_mem 4 s) (by_app (le_mem 4 p) (le_mem 4 z))
theorem desc_yes {s p z : Int} (g : Bool) (hs : 0 ≤ s) (hs2 : s < 4294967296) (hp : 0 ≤ p) (hp2 : p ≤ 4294967295) (hz : 0 ≤ z) (hz2 : z ≤ 4294967295) :
    descB f0 f1 f2 f3 f4 s p z f8 f9 g = ⟨(if g then le 4 134695760 else []) ++ d12 s p z, 16, 0⟩ := by
  unfold descB d12
  have e0 : (⟨[], 16, 0⟩ : BS).num 134695760 4 = ⟨le 4 134695760, 16, 0⟩ := gnum_fit rfl (by omega) (by omega) (by simp)
  have e1 : wrap64 s = s := w64 (by omega) (by omega)
  cases g with
  | true =>
    rw [if_pos rfl, e0, e1, gnum_fit rfl hs (by omega) (by simp [le_length]), gnum_fit rfl hp (by omega) (by simp [le_length]), gnum_fit rfl hz (by omega) (by simp [le_length])]
    simp
  | false =>
    rw [if_neg (by simp), e1, gnum_fit rfl hs (by omega) (by simp), gnum_fit rfl hp (by omega) (by simp [le_length]), gnum_fit rfl hz (by omega) (by simp [le_length])]
    simp
theorem get_at {row : List Int} {a : Nat} {s p z : Int} (ha : a ≤ row.length) (hs : 0 ≤ s) (hs2 : s < 4294967296) (hp : 0 ≤ p) (hp2 : p ≤ 4294967295) (hz : 0 ≤ z) (hz2 : z ≤ 4294967295) :
    getDescF row (a : Int) f0 f1 f2 f3 f4 s p z f8 f9 = if hasP (row.drop a) (le 4 134695760 ++ d12 s p z) = true then (16, 0) else if hasP (row.drop a) (d12 s p z) = true then (12, 0) else if (row.length : Int) - a < 12 then (0, 122) else (0, 123) := by
  unfold getDescF
  rw [if_neg (by omega), desc_yes f0 f1 f2 f3 f4 f8 f9 true hs hs2 hp hp2 hz hz2, if_pos rfl, if_pos rfl, Int.toNat_natCast, List.drop_left' (le_length 4 134695760)]
/-- The last look: of other numbers just what stands there by chance. -/
theorem last {row : List Int} {a : Nat} {s p z : Int} {e : Int × Int} (h : e.2 = 0 → s = 134695760 ∨ s = 134695761) :
    (if e.2 = 0 then (if s = 134695760 then some true else some (s == 134695761)) else some true) = some true := by
  by_cases h1 : e.2 = 0
  · rw [if_pos h1]
    rcases h h1 with h2 | h2
    · rw [if_pos h2]
    · rw [if_neg (by omega), h2]; rfl
  · rw [if_neg h1]
theorem get_f {row : List Int} (hl : row.length ≤ 140737488355328) (a s p z : Int) : record_GetDescriptor.f row a f0 f1 f2 f3 f4 s p z f8 f9 = some (getDescF row a f0 f1 f2 f3 f4 s p z f8 f9) := by
  unfold record_GetDescriptor.f
  rw [if_pos hl]
/-- The numbers with one bit turned: found only by chance. -/
theorem other {pre r : List Int} {g : Bool} {s p z : Int} (hr : By r) (hs : 0 ≤ s) (hs2 : s < 4294967296) (hp : 0 ≤ p) (hp2 : p ≤ 4294967295) (hz : 0 ≤ z) (hz2 : z ≤ 4294967295)
    (h : (getDescF (pre ++ (((if g then le 4 134695760 else []) ++ d12 s p z) ++ r)) (pre.length : Int) f0 f1 f2 f3 f4 (Go.bits .xor .u32 s 1) p z f8 f9).2 = 0) : s = 134695760 ∨ s = 134695761 := by
  obtain ⟨m, hm, rfl, hm2⟩ := xor_one s hs hs2
  rw [hm, get_at f0 f1 f2 f3 f4 f8 f9 (by rw [List.length_append]; omega) (by omega) (by omega) hp hp2 hz hz2, List.drop_left' rfl] at h
  have htail : By ((le 4 p ++ le 4 z) ++ r) := by_app (by_app (le_mem 4 p) (le_mem 4 z)) hr
  have hx := xor_ne m
  cases g with
  | true =>
    simp only [↓reduceIte] at h
    split at h
    · rename_i h1
      have h2 := hasP_eq (by_app (by_app (le_mem 4 134695760) (d12_by _ p z)) hr) (by_app (le_mem 4 134695760) (d12_by _ p z)) h1
      rw [List.length_append, le_length, d12_len, List.take_left' (by rw [List.length_append, le_length, d12_len])] at h2
      have h3 := List.append_cancel_left h2
      unfold d12 at h3
      have h4 := congrArg (List.take 4) h3
      rw [List.take_left' (le_length 4 _), List.take_left' (le_length 4 _)] at h4
      have h5 : nm (le 4 (m : Int)) = nm (le 4 ((m ^^^ 1 : Nat) : Int)) := by rw [h4]
      rw [nm_le 4 _ (by omega) (by omega), nm_le 4 _ (by omega) (by omega)] at h5
      omega
    · split at h
      · rename_i h1
        rw [List.append_assoc] at h1
        have h2 := hasP_head (y := ((m ^^^ 1 : Nat) : Int)) (by omega) (by omega) (by omega) (by omega) (by_app (d12_by _ p z) hr) (by_app (le_mem 4 p) (le_mem 4 z)) h1
        have h3 := xor_sig (m := m) (by omega)
        exact .inr (by omega)
      · split at h <;> simp at h
  | false =>
    simp only [Bool.false_eq_true, ↓reduceIte, List.nil_append] at h
    split at h
    · rename_i h1
      unfold d12 at h1
      rw [List.append_assoc] at h1
      have h2 := hasP_head (by omega) (by omega) (by omega) (by omega) htail (by_app (le_mem 4 _) (by_app (le_mem 4 p) (le_mem 4 z))) h1
      exact .inl h2
    · split at h
      · rename_i h1
        unfold d12 at h1
        rw [List.append_assoc] at h1
        have h2 := hasP_head (by omega) (by omega) (by omega) (by omega) htail (by_app (le_mem 4 p) (le_mem 4 z)) h1
        omega
      · split at h <;> simp at h
theorem told_j4 {pre r row : List Int} {g : Bool} {s p z : Int} (hrow : row = pre ++ (((if g then le 4 134695760 else []) ++ d12 s p z) ++ r)) (hl : row.length ≤ 140737488355328) (x : Bool)
    (hx : x = true → g = true ∧ s ≠ 134695760) (hr : By r) (hs : 0 ≤ s) (hs2 : s < 4294967296) (hp : 0 ≤ p) (hp2 : p ≤ 4294967295) (hz : 0 ≤ z) (hz2 : z ≤ 4294967295) :
    Ev (fun k => valiselaw12_RecordTold.j4 k pre row x f0 f1 f2 f3 f4 s p z f8 f9) true := by
  have hlast : Ev (fun _ => (record_GetDescriptor.f row (pre.length : Int) f0 f1 f2 f3 f4 (Go.bits .xor .u32 s 1) p z f8 f9).bind fun bt => (if bt.2 = 0 then (if s = 134695760 then (some true) else (some (s == 134695761))) else (some true))) true := by
    refine bnd (get_f f0 f1 f2 f3 f4 f8 f9 hl _ _ _ _) ?_
    have h := last (row := row) (a := 0) (s := s) (p := p) (z := z) (e := getDescF row (pre.length : Int) f0 f1 f2 f3 f4 (Go.bits .xor .u32 s 1) p z f8 f9) (fun h => by
      rw [hrow] at h
      exact other f0 f1 f2 f3 f4 f8 f9 hr hs hs2 hp hp2 hz hz2 h)
    rw [h]
    exact done rfl
  refine Ev.step (fun k => valiselaw12_RecordTold.j4.eq_2 ..) ?_
  cases x with
  | false => exact neg (by simp) hlast
  | true =>
    obtain ⟨rfl, hne⟩ := hx rfl
    refine pos rfl (bnd (get_f f0 f1 f2 f3 f4 f8 f9 hl _ _ _ _) ?_)
    have hlen : row.length = pre.length + (16 + r.length) := by rw [hrow]; simp [le_length, d12_len]; omega
    have hw : wrap64 ((pre.length : Int) + 4) = ((pre.length + 4 : Nat) : Int) := by rw [w64 (by omega) (by omega)]; omega
    have hdrop : row.drop (pre.length + 4) = d12 s p z ++ r := by
      rw [hrow, if_pos rfl, List.append_assoc, ← List.append_assoc pre]
      exact List.drop_left' (by rw [List.length_append, le_length])
    have hget : getDescF row (wrap64 ((pre.length : Int) + 4)) f0 f1 f2 f3 f4 s p z f8 f9 = (12, 0) := by
      rw [hw, get_at f0 f1 f2 f3 f4 f8 f9 (by omega) hs hs2 hp hp2 hz hz2, hdrop, if_neg, if_pos (hasP_self _ _)]
      intro h
      unfold d12 at h
      rw [List.append_assoc] at h
      exact hne (hasP_head hs hs2 (by omega) (by omega) (by_app (by_app (le_mem 4 p) (le_mem 4 z)) hr) (by_app (le_mem 4 s) (by_app (le_mem 4 p) (le_mem 4 z))) h)
    rw [hget]
    exact pos rfl (pos rfl hlast)
theorem told_first {pre r : List Int} (g : Bool) {s p z : Int} (hr : By r) (hs : 0 ≤ s) (hs2 : s < 4294967296) (hp : 0 ≤ p) (hp2 : p ≤ 4294967295) (hz : 0 ≤ z) (hz2 : z ≤ 4294967295) :
    ∃ n, getDescF (pre ++ (((if g then le 4 134695760 else []) ++ d12 s p z) ++ r)) (pre.length : Int) f0 f1 f2 f3 f4 s p z f8 f9 = (n, 0) ∧ (n = (if g then 16 else 12) ∨ s = 134695760) := by
  rw [get_at f0 f1 f2 f3 f4 f8 f9 (by rw [List.length_append]; omega) hs hs2 hp hp2 hz hz2, List.drop_left' rfl]
  cases g with
  | true =>
    rw [if_pos rfl, if_pos (hasP_self _ _)]
    exact ⟨16, rfl, .inl rfl⟩
  | false =>
    rw [if_neg (show ¬ (false = true) by simp), List.nil_append]
    split
    · rename_i h1
      refine ⟨16, rfl, .inr ?_⟩
      unfold d12 at h1
      rw [List.append_assoc] at h1
      exact hasP_head hs hs2 (by omega) (by omega) (by_app (by_app (le_mem 4 p) (le_mem 4 z)) hr) (by_app (le_mem 4 s) (by_app (le_mem 4 p) (le_mem 4 z))) h1
    · rw [if_pos (hasP_self _ _)]
      exact ⟨12, rfl, .inl rfl⟩

theorem sum1 (l : List Int) : (l.map (fun _ => 1)).sum = l.length := by
  induction l with
  | nil => rfl
  | cons x l ih => rw [List.map_cons, List.sum_cons, ih, List.length_cons]; omega
theorem RecordTold : valiselaw12_RecordTold.Pure := by
  intro l0 a g l3 h0 ha h3 hbulk
  obtain ⟨f0, f1, f2, f3, f4, s, p, z, f8, f9⟩ := a
  obtain ⟨_, _, _, _, _, hs, hp, hz, _, _⟩ := ha
  have hs' : 0 ≤ s ∧ s < 4294967296 := by have := hs; simp [Lit.wf, IntKind.min, IntKind.max, IntKind.bits, IntKind.signed] at this; omega
  have n0 : l0.length ≤ 1048576 := by rw [sum1 l0] at hbulk; omega
  have n3 : l3.length ≤ 1048576 := by rw [sum1 l3] at hbulk; omega
  have hb3 : By l3 := fun x hx => by have := h3.2 x hx; simp [Lit.wf, IntKind.min, IntKind.max, IntKind.bits, IntKind.signed] at this; omega
  refine Ev.rounds ?_
  unfold valiselaw12_RecordTold.f
  simp only
  refine bnd (by unfold record_PutDescriptor.f; rfl) (bnd (is32_f p) ?_)
  by_cases hp1 : 0 ≤ p ∧ p ≤ 4294967295
  · by_cases hz1 : 0 ≤ z ∧ z ≤ 4294967295
    · refine pos (by simpa using hp1) (bnd (is32_f z) ?_)
      have hd := desc_yes f0 f1 f2 f3 f4 f8 f9 g hs'.1 hs'.2 hp1.1 hp1.2 hz1.1 hz1.2
      have hans : (descB f0 f1 f2 f3 f4 s p z f8 f9 g).ans = ((if g then le 4 134695760 else []) ++ d12 s p z, 0) := by rw [hd]; rfl
      rw [hans, decide_eq_true hz1]
      simp only
      obtain ⟨b, hb⟩ : ∃ b, b = (if g then le 4 134695760 else []) ++ d12 s p z := ⟨_, rfl⟩
      have hbl : b.length = if g then 16 else 12 := by rw [hb]; cases g <;> simp [le_length, d12_len]
      rw [← hb]
      have hj2 : ∀ w : Int, w = ((if g then 16 else 12 : Nat) : Int) → Ev (fun k => valiselaw12_RecordTold.j1 k l0 g l3 b 0 w f0 f1 f2 f3 f4 s p z f8 f9) true := by
        intro w hw
        refine Ev.step (fun k => valiselaw12_RecordTold.j1.eq_2 ..) (pos rfl ?_)
        have hbw : ((b.length : Int) != w) = false := by rw [hbl, hw]; simp
        rw [hbw]
        refine Ev.step (fun k => valiselaw12_RecordTold.j2.eq_2 ..) (neg (by simp) ?_)
        have hb16 : b.length ≤ 16 := by rw [hbl]; cases g <;> simp
        refine Ev.bind (joined_ev l0 b (by omega)) (Ev.bind (joined_ev (l0 ++ b) l3 (by rw [List.length_append]; omega)) (bnd (get_f f0 f1 f2 f3 f4 f8 f9 (by rw [List.length_append, List.length_append]; omega) _ _ _ _) ?_))
        obtain ⟨n, hn, hn2⟩ := told_first f0 f1 f2 f3 f4 f8 f9 (pre := l0) (r := l3) g hb3 hs'.1 hs'.2 hp1.1 hp1.2 hz1.1 hz1.2
        rw [← hb, ← List.append_assoc] at hn
        rw [hn]
        refine pos rfl ?_
        have hj3 : Ev (fun k => valiselaw12_RecordTold.j3 k l0 g (l0 ++ b ++ l3) false f0 f1 f2 f3 f4 s p z f8 f9) true := by
          have hrow : l0 ++ b ++ l3 = l0 ++ (((if g then le 4 134695760 else []) ++ d12 s p z) ++ l3) := by rw [← hb, List.append_assoc]
          have hrl : (l0 ++ b ++ l3).length ≤ 140737488355328 := by rw [List.length_append, List.length_append]; omega
          refine Ev.step (fun k => valiselaw12_RecordTold.j3.eq_2 ..) (neg (by simp) ?_)
          by_cases hg : g = true
          · refine pos hg (told_j4 f0 f1 f2 f3 f4 f8 f9 hrow hrl _ (fun h => ⟨hg, by simpa using h⟩) hb3 hs'.1 hs'.2 hp1.1 hp1.2 hz1.1 hz1.2)
          · refine neg hg (told_j4 f0 f1 f2 f3 f4 f8 f9 hrow hrl _ (fun h => by cases h) hb3 hs'.1 hs'.2 hp1.1 hp1.2 hz1.1 hz1.2)
        by_cases hnw : n = w
        · exact pos hnw hj3
        · refine neg hnw ?_
          have hsig : s = 134695760 := by
            rcases hn2 with h | h
            · refine absurd ?_ hnw
              rw [h, hw]; cases g <;> rfl
            · exact h
          have hf : (s != 134695760) = false := by rw [hsig]; rfl
          rw [hf]
          exact hj3
      refine Ev.step (fun k => valiselaw12_RecordTold.j0.eq_2 ..) (neg (by simp) ?_)
      by_cases hg : g = true
      · exact pos hg (hj2 16 (by rw [hg]; rfl))
      · exact neg hg (hj2 12 (by rw [if_neg hg]; rfl))
    · refine pos (by simpa using hp1) (bnd (is32_f z) ?_)
      rw [desc_no f0 f1 f2 f3 f4 f8 f9 (.inr hz1), decide_eq_false hz1]
      exact Ev.step (fun k => valiselaw12_RecordTold.j0.eq_2 ..) (pos (by simp) (pos rfl (done rfl)))
  · refine neg (by simpa using hp1) ?_
    rw [desc_no f0 f1 f2 f3 f4 f8 f9 (.inl hp1)]
    exact Ev.step (fun k => valiselaw12_RecordTold.j0.eq_2 ..) (pos (by simp) (pos rfl (done rfl)))
end Go.Proofs.Ytkmnhlhpmfkloaa.PT.Pure
