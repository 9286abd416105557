/- Tokens and the text that they say: what twin, sound, Expand, same, alike and means of layer 9 compute, in plain words. -/
import Derived.Test.YtehpkbkffaolaaaPMx5
import Derived.Test.YtehpkbkffaolaaaPMK
import Derived.Test.YtehpkbkffaolaaaPur
namespace Go.Proofs.Ytehpkbkffaolaaa.PM
open Go.RowKit Go.Proofs.Ytehpkbkffaolaaa Go.Proofs.YtehpkbkffaolaaaW.PrintWords Go.Proofs.YtehpkbkffaolaaaW.PrintLast Go.Proofs.YtehpkbkffaolaaaW.PrintMore Go.Proofs.Ytehpkbkffaolaaa.Pur
set_option linter.unusedVariables false

abbrev Tok := S37
theorem rdT_nat (xs : List Tok) (i : Nat) (h : i < xs.length) : rd_T37 xs (i : Int) = xs[i] := by
  simp [rd_T37, List.getD_eq_getElem?_getD, h]
theorem rdT_of {xs : List Tok} {i : Int} {n : Nat} (hn : i = n) (h : n < xs.length) : rd_T37 xs i = xs[n] := by
  subst hn
  exact rdT_nat xs n h
theorem take_rdT (xs : List Tok) (n : Nat) (h : n < xs.length) : xs.take (n + 1) = xs.take n ++ [rd_T37 xs n] := by
  rw [List.take_succ_eq_append_getElem h, rdT_nat _ _ h]
theorem drop_rdT (xs : List Tok) (n : Nat) (h : n < xs.length) : xs.drop n = rd_T37 xs n :: xs.drop (n + 1) := by
  rw [List.drop_eq_getElem_cons h, rdT_nat _ _ h]

/-! ### sound -/
def sndB (t : Tok) : Bool := if t.f0 = 0 then t.f1 == 0 else (decide (3 ≤ t.f0) && (decide (t.f0 ≤ 258) && (decide (1 ≤ t.f1) && (decide (t.f1 ≤ 32768) && (t.f2 == 0)))))
theorem sound_m (t : Tok) : match_sound.f t.f0 t.f1 t.f2 = some (sndB t) := by
  unfold match_sound.f sndB
  by_cases h : t.f0 = 0
  · rw [if_pos h, if_pos h]
  · rw [if_neg h, if_neg h]
    by_cases h1 : t.f0 ≥ 3
    · by_cases h2 : t.f0 ≤ 258
      · by_cases h3 : t.f1 ≥ 1
        · by_cases h4 : t.f1 ≤ 32768
          · simp [h1, h2, h3, h4]
          · simp [h1, h2, h3, h4]
        · simp [h1, h2, h3]
      · simp [h1, h2]
    · simp [h1]
theorem sound_r (t : Tok) : valiseref9_sound.f t.f0 t.f1 t.f2 = some (sndB t) := sound_m t
theorem sound_l (t : Tok) : valiselaw9_sound.f t.f0 t.f1 t.f2 = some (sndB t) := sound_m t
/-- How many bytes a token says. -/
def say (t : Tok) : Int := mx 1 t.f0
theorem snd_cases {t : Tok} (h : sndB t = true) : (t.f0 = 0 ∧ t.f1 = 0) ∨ (3 ≤ t.f0 ∧ t.f0 ≤ 258 ∧ 1 ≤ t.f1 ∧ t.f1 ≤ 32768 ∧ t.f2 = 0) := by
  unfold sndB at h
  split at h
  · rename_i h0
    exact .inl ⟨h0, by simpa using h⟩
  · simp only [Bool.and_eq_true, decide_eq_true_eq, beq_iff_eq] at h
    exact .inr ⟨h.1, h.2.1, h.2.2.1, h.2.2.2.1, h.2.2.2.2⟩
theorem say_lit {t : Tok} (h : t.f0 = 0) : say t = 1 := by unfold say mx; omega
theorem say_copy {t : Tok} (h : 1 ≤ t.f0) : say t = t.f0 := by unfold say mx; omega
theorem say_pos (t : Tok) : 1 ≤ say t := by unfold say mx; omega

/-! ### the text -/
def copyN (out : List Int) (d : Int) : Nat → List Int
  | 0 => out
  | n + 1 => copyN (out ++ [rd out (out.length - d)]) d n
theorem copyN_length (d : Int) : ∀ (n : Nat) (out : List Int), (copyN out d n).length = out.length + n := by
  intro n
  induction n with
  | zero => intro out; rfl
  | succ n ih => intro out; simp only [copyN, ih]; simp; omega
theorem copyN_app (d : Int) : ∀ (n : Nat) (out : List Int), ∃ s, copyN out d n = out ++ s := by
  intro n
  induction n with
  | zero => intro out; exact ⟨[], by simp [copyN]⟩
  | succ n ih =>
    intro out
    obtain ⟨s, hs⟩ := ih (out ++ [rd out (out.length - d)])
    exact ⟨[rd out (out.length - d)] ++ s, by simp only [copyN]; rw [hs, List.append_assoc]⟩
def putT (out : List Int) (t : Tok) : List Int := if t.f0 = 0 then out ++ [t.f2] else copyN out t.f1 t.f0.toNat
theorem putT_app (out : List Int) (t : Tok) : ∃ s, putT out t = out ++ s := by
  unfold putT
  split
  · exact ⟨_, rfl⟩
  · exact copyN_app _ _ _
theorem putT_length {t : Tok} (h : sndB t = true) (out : List Int) : ((putT out t).length : Int) = out.length + say t := by
  unfold putT
  rcases snd_cases h with ⟨h0, _⟩ | ⟨h0, _⟩
  · rw [if_pos h0, say_lit h0]; simp
  · rw [if_neg (by omega), say_copy (by omega), copyN_length]; omega
def textOf (out : List Int) (ts : List Tok) : List Int := ts.foldl putT out
theorem textOf_cons (out : List Int) (t : Tok) (ts : List Tok) : textOf out (t :: ts) = textOf (putT out t) ts := rfl
theorem textOf_app (out : List Int) (a b : List Tok) : textOf out (a ++ b) = textOf (textOf out a) b := by simp [textOf]
theorem textOf_more : ∀ (ts : List Tok) (out : List Int), ∃ s, textOf out ts = out ++ s := by
  intro ts
  induction ts with
  | nil => intro out; exact ⟨[], by simp [textOf]⟩
  | cons t ts ih =>
    intro out
    obtain ⟨s, hs⟩ := putT_app out t
    obtain ⟨s', hs'⟩ := ih (putT out t)
    exact ⟨s ++ s', by rw [textOf_cons, hs', hs, List.append_assoc]⟩
/-- All tokens may be taken: with room lim, behind n bytes. -/
def goodB (lim : Int) : List Tok → Int → Bool
  | [], _ => true
  | t :: ts, n => sndB t && (decide (t.f1 ≤ n) && (decide (n + say t ≤ lim) && goodB lim ts (n + say t)))
def sizeT : List Tok → Int → Int
  | [], n => n
  | t :: ts, n => sizeT ts (n + say t)
theorem sizeT_ge : ∀ (ts : List Tok) (n : Int), n + ts.length ≤ sizeT ts n := by
  intro ts
  induction ts with
  | nil => intro n; simp [sizeT]
  | cons t ts ih => intro n; have := ih (n + say t); have := say_pos t; simp only [sizeT, List.length_cons]; omega
theorem good_size {lim : Int} : ∀ (ts : List Tok) (n : Int), goodB lim ts n = true → n ≤ lim → sizeT ts n ≤ lim := by
  intro ts
  induction ts with
  | nil => intro n _ h; simpa [sizeT] using h
  | cons t ts ih =>
    intro n h hn
    simp only [goodB, Bool.and_eq_true, decide_eq_true_eq] at h
    exact ih _ h.2.2.2 h.2.2.1
theorem text_length : ∀ (ts : List Tok) (out : List Int), (∀ t ∈ ts, sndB t = true) → ((textOf out ts).length : Int) = sizeT ts out.length := by
  intro ts
  induction ts with
  | nil => intro out _; rfl
  | cons t ts ih =>
    intro out h
    rw [textOf_cons, ih _ (fun x hx => h x (List.mem_cons_of_mem _ hx)), putT_length (h t List.mem_cons_self)]
    rfl
theorem good_sound {lim : Int} : ∀ (ts : List Tok) (n : Int), goodB lim ts n = true → ∀ t ∈ ts, sndB t = true := by
  intro ts
  induction ts with
  | nil => intro n _ t ht; cases ht
  | cons t ts ih =>
    intro n h x hx
    simp only [goodB, Bool.and_eq_true, decide_eq_true_eq] at h
    rcases List.mem_cons.1 hx with rfl | hx
    · exact h.1
    · exact ih _ h.2.2.2 x hx
theorem good_take {lim : Int} : ∀ (ts : List Tok) (n : Int) (j : Nat), goodB lim ts n = true → goodB lim (ts.take j) n = true := by
  intro ts
  induction ts with
  | nil => intro n j _; simp [goodB]
  | cons t ts ih =>
    intro n j h
    simp only [goodB, Bool.and_eq_true, decide_eq_true_eq] at h
    cases j with
    | zero => simp [goodB]
    | succ j =>
      simp only [List.take_succ_cons, goodB, Bool.and_eq_true, decide_eq_true_eq]
      exact ⟨h.1, h.2.1, h.2.2.1, ih _ j h.2.2.2⟩
/-- With less room, if the whole fits. -/
theorem good_lim {lim lim' : Int} : ∀ (ts : List Tok) (n : Int), goodB lim ts n = true → sizeT ts n ≤ lim' → goodB lim' ts n = true := by
  intro ts
  induction ts with
  | nil => intro n _ _; rfl
  | cons t ts ih =>
    intro n h hs
    simp only [goodB, Bool.and_eq_true, decide_eq_true_eq] at h ⊢
    have h1 := sizeT_ge ts (n + say t)
    simp only [sizeT] at hs
    exact ⟨h.1, h.2.1, by omega, ih _ h.2.2.2 hs⟩

/-! ### Expand, from some token on -/
def expGo (lim : Int) : List Tok → List Int → List Int × Int
  | [], out => (out, 0)
  | t :: ts, out => if sndB t = true then (if t.f1 > out.length then ([], 91) else if say t > lim - out.length then ([], 92) else expGo lim ts (putT out t)) else ([], 90)
theorem exp_good {lim : Int} : ∀ (ts : List Tok) (out : List Int), goodB lim ts out.length = true → expGo lim ts out = (textOf out ts, 0) := by
  intro ts
  induction ts with
  | nil => intro out _; rfl
  | cons t ts ih =>
    intro out h
    simp only [goodB, Bool.and_eq_true, decide_eq_true_eq] at h
    rw [expGo, if_pos h.1, if_neg (by omega), if_neg (by omega), textOf_cons]
    exact ih _ (by rw [putT_length h.1]; exact h.2.2.2)
theorem exp_bad {lim : Int} : ∀ (ts : List Tok) (out : List Int), goodB lim ts out.length = false → ∃ e, expGo lim ts out = ([], e) ∧ (e = 90 ∨ e = 91 ∨ e = 92) := by
  intro ts
  induction ts with
  | nil => intro out h; simp [goodB] at h
  | cons t ts ih =>
    intro out h
    rw [expGo]
    by_cases h1 : sndB t = true
    · rw [if_pos h1]
      by_cases h2 : t.f1 > out.length
      · rw [if_pos h2]; exact ⟨_, rfl, by omega⟩
      · rw [if_neg h2]
        by_cases h3 : say t > lim - out.length
        · rw [if_pos h3]; exact ⟨_, rfl, by omega⟩
        · rw [if_neg h3]
          refine ih _ ?_
          rw [putT_length h1]
          have h4 : decide (t.f1 ≤ (out.length : Int)) = true := by simp; omega
          have h5 : decide ((out.length : Int) + say t ≤ lim) = true := by simp; omega
          simpa [goodB, h1, h4, h5] using h
    · rw [if_neg h1]; exact ⟨_, rfl, by omega⟩

theorem m_l1 (lim : Int) (toks : List Tok) (n17 : Int) (i : Int) (a b c : Int) (r : List Int × Int) (hlim : lim ≤ 16777216) (hb : 0 < b) :
    ∀ (d : Nat) (out : List Int) (j m : Int), m - j = d → 0 ≤ j → m ≤ 258 → b ≤ out.length → out.length + d ≤ lim →
      Ev (fun k => match_Expand.l0 k lim (copyN out b d) toks n17 (wrap64 (i + 1))) r → Ev (fun k => match_Expand.l1 k lim out toks n17 i m j a b c) r := by
  intro d
  induction d with
  | zero =>
    intro out j m hd hj hm hbo hlo h
    refine Ev.step (fun k => match_Expand.l1.eq_2 ..) ?_
    refine neg (by omega) ?_
    simpa only [copyN] using h
  | succ d ih =>
    intro out j m hd hj hm hbo hlo h
    refine Ev.step (fun k => match_Expand.l1.eq_2 ..) ?_
    refine pos (by omega) ?_
    rw [w64 (x := (out.length : Int) - b) (by omega) (by omega), w64 (x := j + 1) (by omega) (by omega)]
    refine pos (by omega) (pos (by omega) (pos (by omega) ?_))
    refine ih _ _ _ (by omega) (by omega) hm (by simp; omega) (by simp; omega) ?_
    simpa only [copyN] using h
theorem m_l0 (lim : Int) (toks : List Tok) (hlim : lim ≤ 16777216) (h0 : 0 ≤ lim) (hn : toks.length * 24 ≤ 140737488355328) :
    ∀ (d i : Nat) (out : List Int), i + d = toks.length → (out.length : Int) ≤ lim → Ev (fun k => match_Expand.l0 k lim out toks toks.length i) (expGo lim (toks.drop i) out) := by
  intro d
  induction d with
  | zero =>
    intro i out hd hlo
    refine Ev.step (fun k => match_Expand.l0.eq_2 ..) ?_
    refine neg (by omega) ?_
    rw [List.drop_eq_nil_of_le (by omega)]
    exact done rfl
  | succ d ih =>
    intro i out hd hlo
    refine Ev.step (fun k => match_Expand.l0.eq_2 ..) ?_
    refine pos (by omega) (pos (by omega) (pos (by omega) ?_))
    rw [drop_rdT toks i (by omega)]
    generalize ht : rd_T37 toks (i : Int) = t
    refine bnd (sound_m t) ?_
    rw [expGo]
    by_cases h1 : sndB t = true
    · rw [if_pos h1]
      refine pos h1 ?_
      by_cases h2 : t.f1 > out.length
      · rw [if_pos h2]; exact pos h2 (done rfl)
      · rw [if_neg h2]
        refine neg h2 ?_
        rw [w64 (x := lim - (out.length : Int)) (by omega) (by omega)]
        by_cases h3 : say t > lim - out.length
        · rw [if_pos h3]; exact pos h3 (done rfl)
        · rw [if_neg h3]
          refine neg h3 ?_
          have hnext := ih (i + 1) (putT out t) (by omega) (by rw [putT_length h1]; omega)
          have hw : wrap64 ((i : Int) + 1) = ((i + 1 : Nat) : Int) := by rw [w64 (by omega) (by omega)]; omega
          rcases snd_cases h1 with ⟨e0, e1⟩ | ⟨e0, e1, e2, e3, e4⟩
          · refine pos e0 (pos (by omega) ?_)
            refine Ev.step (fun k => match_Expand.j2.eq_2 ..) ?_
            refine Ev.step (fun k => match_Expand.l1.eq_2 ..) ?_
            refine neg (by omega) ?_
            rw [hw]
            rw [putT, if_pos e0] at hnext ⊢
            exact hnext
          · refine neg (by omega) ?_
            refine Ev.step (fun k => match_Expand.j2.eq_2 ..) ?_
            rw [say_copy (by omega)] at h3
            refine m_l1 lim toks _ _ _ _ _ _ hlim (by omega) t.f0.toNat out 0 t.f0 (by omega) (by omega) (by omega) (by omega) (by omega) ?_
            rw [hw]
            rw [putT, if_neg (by omega)] at hnext ⊢
            exact hnext
    · rw [if_neg h1]
      exact neg (by simpa using h1) (done rfl)
def expand (toks : List Tok) (lim : Int) : List Int × Int := if lim < 0 ∨ lim > 16777216 then ([], 1) else expGo lim toks []
theorem expand_m (toks : List Tok) (lim : Int) (hn : toks.length * 24 ≤ 140737488355328) : Ev (fun k => match_Expand.f k toks lim) (expand toks lim) := by
  unfold match_Expand.f expand
  by_cases h : lim < 0
  · rw [if_pos (.inl h)]
    refine pos h ?_
    exact Ev.step (fun k => match_Expand.j0.eq_2 ..) (pos rfl (done rfl))
  · refine neg h ?_
    by_cases h2 : lim > 16777216
    · rw [if_pos (.inr h2)]
      rw [decide_eq_true h2]
      exact Ev.step (fun k => match_Expand.j0.eq_2 ..) (pos rfl (done rfl))
    · rw [if_neg (by omega), decide_eq_false h2]
      refine Ev.step (fun k => match_Expand.j0.eq_2 ..) (neg (by simp) ?_)
      exact m_l0 lim toks (by omega) (by omega) hn toks.length 0 [] (by omega) (by simp; omega)

theorem r_l1 (lim : Int) (toks : List Tok) (i : Int) (b c : Int) (r : List Int × Int) (hlim : lim ≤ 16777216) (hb : 0 < b) :
    ∀ (d : Nat) (out : List Int) (j m : Int), m - j = d → 0 ≤ j → m ≤ 258 → b ≤ out.length → out.length + d ≤ lim →
      Ev (fun k => valiseref9_Expand.l0 k toks lim (copyN out b d) (wrap64 (i + 1))) r → Ev (fun k => valiseref9_Expand.l1 k toks lim out i j m b c) r := by
  intro d
  induction d with
  | zero =>
    intro out j m hd hj hm hbo hlo h
    refine Ev.step (fun k => valiseref9_Expand.l1.eq_2 ..) ?_
    refine neg (by omega) ?_
    simpa only [copyN] using h
  | succ d ih =>
    intro out j m hd hj hm hbo hlo h
    refine Ev.step (fun k => valiseref9_Expand.l1.eq_2 ..) ?_
    refine pos (by omega) ?_
    rw [w64 (x := (out.length : Int) - b) (by omega) (by omega), w64 (x := j + 1) (by omega) (by omega)]
    refine pos (by omega) (pos (by omega) (pos (by omega) ?_))
    refine ih _ _ _ (by omega) (by omega) hm (by simp; omega) (by simp; omega) ?_
    simpa only [copyN] using h
theorem r_l0 (lim : Int) (toks : List Tok) (hlim : lim ≤ 16777216) (h0 : 0 ≤ lim) (hn : toks.length * 24 ≤ 140737488355328) :
    ∀ (d i : Nat) (out : List Int), i + d = toks.length → (out.length : Int) ≤ lim → Ev (fun k => valiseref9_Expand.l0 k toks lim out i) (expGo lim (toks.drop i) out) := by
  intro d
  induction d with
  | zero =>
    intro i out hd hlo
    refine Ev.step (fun k => valiseref9_Expand.l0.eq_2 ..) ?_
    refine neg (by omega) ?_
    rw [List.drop_eq_nil_of_le (by omega)]
    exact done rfl
  | succ d ih =>
    intro i out hd hlo
    refine Ev.step (fun k => valiseref9_Expand.l0.eq_2 ..) ?_
    refine pos (by omega) (pos (by omega) ?_)
    rw [drop_rdT toks i (by omega)]
    generalize ht : rd_T37 toks (i : Int) = t
    refine bnd (sound_r t) ?_
    have hw : wrap64 ((i : Int) + 1) = ((i + 1 : Nat) : Int) := by rw [w64 (by omega) (by omega)]; omega
    rw [expGo]
    by_cases h1 : sndB t = true
    · rw [if_pos h1]
      refine pos h1 ?_
      rcases snd_cases h1 with ⟨e0, e1⟩ | ⟨e0, e1, e2, e3, e4⟩
      · rw [if_neg (by omega), say_lit e0]
        refine pos e0 ?_
        rw [w64 (x := (out.length : Int) + 1) (by omega) (by omega)]
        by_cases h3 : (1 : Int) > lim - out.length
        · rw [if_pos h3]; exact pos (by omega) (done rfl)
        · rw [if_neg h3]
          refine neg (by omega) (pos (by omega) ?_)
          have hnext := ih (i + 1) (putT out t) (by omega) (by rw [putT_length h1, say_lit e0]; omega)
          rw [hw]
          rw [putT, if_pos e0] at hnext ⊢
          exact hnext
      · rw [say_copy (by omega)]
        refine neg (by omega) ?_
        by_cases h2 : t.f1 > out.length
        · rw [if_pos h2]; exact pos h2 (done rfl)
        · rw [if_neg h2]
          refine neg h2 ?_
          rw [w64 (x := (out.length : Int) + t.f0) (by omega) (by omega)]
          by_cases h3 : t.f0 > lim - out.length
          · rw [if_pos h3]; exact pos (by omega) (done rfl)
          · rw [if_neg h3]
            refine neg (by omega) ?_
            have hnext := ih (i + 1) (putT out t) (by omega) (by rw [putT_length h1, say_copy (by omega)]; omega)
            refine r_l1 lim toks _ _ _ _ hlim (by omega) t.f0.toNat out 0 t.f0 (by omega) (by omega) (by omega) (by omega) (by omega) ?_
            rw [hw]
            rw [putT, if_neg (by omega)] at hnext ⊢
            exact hnext
    · rw [if_neg h1]
      exact neg (by simpa using h1) (done rfl)
theorem expand_r (toks : List Tok) (lim : Int) (hn : toks.length * 24 ≤ 140737488355328) : Ev (fun k => valiseref9_Expand.f k toks lim) (expand toks lim) := by
  unfold valiseref9_Expand.f expand
  by_cases h : lim < 0
  · rw [if_pos (.inl h)]
    refine pos h ?_
    exact Ev.step (fun k => valiseref9_Expand.j0.eq_2 ..) (pos rfl (done rfl))
  · refine neg h ?_
    by_cases h2 : lim > 16777216
    · rw [if_pos (.inr h2)]
      rw [decide_eq_true h2]
      exact Ev.step (fun k => valiseref9_Expand.j0.eq_2 ..) (pos rfl (done rfl))
    · rw [if_neg (by omega), decide_eq_false h2]
      refine Ev.step (fun k => valiseref9_Expand.j0.eq_2 ..) (neg (by simp) ?_)
      exact r_l0 lim toks (by omega) (by omega) hn toks.length 0 [] (by omega) (by simp; omega)
theorem expand_length (toks : List Tok) (lim : Int) : ((expand toks lim).1.length : Int) ≤ 16777216 := by
  unfold expand
  split
  · simp
  · rename_i h
    cases hg : goodB lim toks 0 with
    | true =>
      rw [exp_good toks [] hg]
      have h1 := text_length toks [] (good_sound _ _ hg)
      have h2 := good_size toks 0 hg (by omega)
      simp only [List.length_nil, Int.natCast_zero] at h1
      show ((textOf [] toks).length : Int) ≤ _
      omega
    | false =>
      obtain ⟨e, he, _⟩ := exp_bad (lim := lim) toks [] hg
      rw [he]; simp

/-! ### twin, same, alike -/
theorem twin_ev (l : List Tok) (hn : l.length * 24 ≤ 140737488355328) : Ev (fun k => valiselaw9_twin.f k l) l := by
  have key : ∀ (d i : Nat) (acc : List Tok), i + d = l.length → acc = l.take i → Ev (fun k => valiselaw9_twin.l0 k l acc (i : Int)) l := by
    intro d
    induction d with
    | zero =>
      intro i acc hd ha
      refine Ev.step (fun k => valiselaw9_twin.l0.eq_2 ..) (neg (by omega) (done ?_))
      rw [ha, List.take_of_length_le (by omega)]
    | succ d ih =>
      intro i acc hd ha
      refine Ev.step (fun k => valiselaw9_twin.l0.eq_2 ..) (pos (by omega) (pos (by omega) (pos (by rw [ha, List.length_take]; omega) ?_)))
      rw [w64 (by omega) (by omega)]
      refine ih (i + 1) _ (by omega) ?_
      rw [take_rdT l i (by omega), ha]
  exact key l.length 0 [] (by omega) (by simp)
theorem same_ev (a b : List Int) (ha : (a.length : Int) ≤ 140737488355328) : Ev (fun k => valiselaw9_same.f k a b) (decide (a = b)) := by
  unfold valiselaw9_same.f
  by_cases hl : (a.length : Int) = b.length
  · refine pos hl ?_
    have key : ∀ (d i : Nat), i + d = a.length → (∀ j : Nat, j < i → rd a j = rd b j) → Ev (fun k => valiselaw9_same.l0 k a b (i : Int)) (decide (a = b)) := by
      intro d
      induction d with
      | zero =>
        intro i hd hi
        refine Ev.step (fun k => valiselaw9_same.l0.eq_2 ..) (neg (by omega) (done ?_))
        exact (decide_eq_true (ext_rd (by omega) (fun j hj => hi j (by omega)))).symm
      | succ d ih =>
        intro i hd hi
        refine Ev.step (fun k => valiselaw9_same.l0.eq_2 ..) (pos (by omega) (pos (by omega) (pos (by omega) ?_)))
        by_cases he : rd a i = rd b i
        · refine pos he ?_
          rw [w64 (by omega) (by omega)]
          refine ih (i + 1) (by omega) (fun j hj => ?_)
          rcases Nat.lt_or_ge j i with h | h
          · exact hi j h
          · obtain rfl : j = i := by omega
            exact he
        · refine neg he (done ?_)
          exact (decide_eq_false (fun h => he (by rw [h]))).symm
    exact key a.length 0 (by omega) (fun j hj => by omega)
  · refine neg hl (done ?_)
    exact (decide_eq_false (fun h => hl (by rw [h]))).symm
theorem tok_ext {s t : Tok} (h0 : s.f0 = t.f0) (h1 : s.f1 = t.f1) (h2 : s.f2 = t.f2) : s = t := by cases s; cases t; simp_all
instance : DecidableEq Tok := fun s t => if h : s.f0 = t.f0 ∧ s.f1 = t.f1 ∧ s.f2 = t.f2 then .isTrue (tok_ext h.1 h.2.1 h.2.2) else .isFalse (fun e => h (by rw [e]; exact ⟨rfl, rfl, rfl⟩))
theorem tok_ne (s t : Tok) : ((!(s.f0 == t.f0) || (!(s.f1 == t.f1) || (!(s.f2 == t.f2)))) = true) ↔ s ≠ t := by
  constructor
  · rintro h rfl
    simp at h
  · intro h
    by_cases h0 : s.f0 = t.f0
    · by_cases h1 : s.f1 = t.f1
      · by_cases h2 : s.f2 = t.f2
        · exact absurd (tok_ext h0 h1 h2) h
        · simp [h2]
      · simp [h1]
    · simp [h0]
theorem alike_ev (a b : List Tok) (ha : a.length * 24 ≤ 140737488355328) : Ev (fun k => valiselaw9_alike.f k a b) (decide (a = b)) := by
  unfold valiselaw9_alike.f
  by_cases hl : (a.length : Int) = b.length
  · refine pos hl ?_
    have key : ∀ (d i : Nat), i + d = a.length → a.take i = b.take i → Ev (fun k => valiselaw9_alike.l0 k a b (i : Int)) (decide (a = b)) := by
      intro d
      induction d with
      | zero =>
        intro i hd hi
        refine Ev.step (fun k => valiselaw9_alike.l0.eq_2 ..) (neg (by omega) (done ?_))
        rw [List.take_of_length_le (by omega), List.take_of_length_le (by omega)] at hi
        exact (decide_eq_true hi).symm
      | succ d ih =>
        intro i hd hi
        refine Ev.step (fun k => valiselaw9_alike.l0.eq_2 ..) (pos (by omega) (pos (by omega) (pos (by omega) ?_)))
        by_cases he : rd_T37 a i = rd_T37 b i
        · refine neg (fun h => (tok_ne _ _).1 h he) ?_
          rw [w64 (by omega) (by omega)]
          refine ih (i + 1) (by omega) ?_
          rw [take_rdT a i (by omega), take_rdT b i (by omega), hi, he]
        · refine pos ((tok_ne _ _).2 he) (done ?_)
          exact (decide_eq_false (fun h => he (by rw [h]))).symm
    exact key a.length 0 (by omega) rfl
  · refine neg hl (done ?_)
    exact (decide_eq_false (fun h => hl (by rw [h]))).symm
end Go.Proofs.Ytehpkbkffaolaaa.PM
