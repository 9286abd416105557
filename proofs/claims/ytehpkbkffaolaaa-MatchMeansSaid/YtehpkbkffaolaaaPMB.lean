/- What means and which compute, and that tokens mean just the text that they say. -/
import Derived.Test.YtehpkbkffaolaaaPMA
namespace Go.Proofs.Ytehpkbkffaolaaa.PM
open Go.RowKit Go.Proofs.Ytehpkbkffaolaaa Go.Proofs.YtehpkbkffaolaaaW.PrintWords Go.Proofs.YtehpkbkffaolaaaW.PrintLast Go.Proofs.YtehpkbkffaolaaaW.PrintMore Go.Proofs.Ytehpkbkffaolaaa.Pur
set_option linter.unusedVariables false

def eqs (data : List Int) (at_ d : Int) : Nat → Nat → Bool
  | 0, _ => true
  | n + 1, j => (rd data (at_ + j) == rd data (at_ + j - d)) && eqs data at_ d n (j + 1)
theorem eqs_iff (data : List Int) (at_ d : Int) : ∀ (n j : Nat), eqs data at_ d n j = true ↔ ∀ i : Nat, j ≤ i → i < j + n → rd data (at_ + i) = rd data (at_ + i - d) := by
  intro n
  induction n with
  | zero => intro j; simp only [eqs, true_iff]; intro i h1 h2; omega
  | succ n ih =>
    intro j
    simp only [eqs, Bool.and_eq_true, beq_iff_eq, ih]
    constructor
    · rintro ⟨h0, h⟩ i h1 h2
      rcases Nat.eq_or_lt_of_le h1 with rfl | h3
      · exact h0
      · exact h i h3 (by omega)
    · intro h
      exact ⟨h j (by omega) (by omega), fun i h1 h2 => h i (by omega) (by omega)⟩
def meansB (data : List Int) : List Tok → Int → Bool
  | [], at_ => at_ == data.length
  | t :: ts, at_ => sndB t && (decide (at_ + say t ≤ data.length) && (decide (t.f1 ≤ at_) && ((if t.f0 = 0 then rd data at_ == t.f2 else eqs data at_ t.f1 t.f0.toNat 0) && meansB data ts (at_ + say t))))
theorem means_l1 (ts : List Tok) (data : List Int) (at_ i b c m : Int) (R : Bool) (hd : data.length ≤ 140737488355328) (h0 : 0 ≤ at_) (hb : 0 ≤ b) (hba : b ≤ at_) (hm : 0 ≤ m) (hat : at_ + m ≤ data.length)
    (hR : Ev (fun k => valiselaw9_means.l0 k ts data (wrap64 (at_ + mx 1 m)) (wrap64 (i + 1))) R) :
    ∀ (n j : Nat), (j : Int) + n = m → Ev (fun k => valiselaw9_means.l1 k ts data at_ i j m b c) (eqs data at_ b n j && R) := by
  intro n
  induction n with
  | zero =>
    intro j hj
    refine Ev.step (fun k => valiselaw9_means.l1.eq_2 ..) (neg (by omega) ?_)
    refine bnd (a := mx 1 m) rfl ?_
    simpa only [eqs, Bool.true_and] using hR
  | succ n ih =>
    intro j hj
    refine Ev.step (fun k => valiselaw9_means.l1.eq_2 ..) (pos (by omega) ?_)
    rw [w64 (x := at_ + (j : Int)) (by omega) (by omega), w64 (x := at_ + (j : Int) - b) (by omega) (by omega)]
    refine pos (by omega) (pos (by omega) (pos (by omega) (pos (by omega) ?_)))
    by_cases he : rd data (at_ + (j : Int)) = rd data (at_ + (j : Int) - b)
    · refine pos he ?_
      rw [w64 (by omega) (by omega)]
      have := ih (j + 1) (by omega)
      rw [show ((j + 1 : Nat) : Int) = (j : Int) + 1 by omega] at this
      simpa only [eqs, he, beq_self_eq_true, Bool.true_and] using this
    · refine neg he (done ?_)
      have : (rd data (at_ + (j : Int)) == rd data (at_ + (j : Int) - b)) = false := by simpa using he
      simp only [eqs, this, Bool.false_and]
theorem means_l0 (ts : List Tok) (data : List Int) (hd : data.length ≤ 140737488355328) (hn : ts.length * 24 ≤ 140737488355328) :
    ∀ (n i : Nat) (at_ : Int), i + n = ts.length → 0 ≤ at_ → at_ ≤ data.length → Ev (fun k => valiselaw9_means.l0 k ts data at_ i) (meansB data (ts.drop i) at_) := by
  intro n
  induction n with
  | zero =>
    intro i at_ hi h0 h1
    refine Ev.step (fun k => valiselaw9_means.l0.eq_2 ..) (neg (by omega) (done ?_))
    rw [List.drop_eq_nil_of_le (by omega)]
    rfl
  | succ n ih =>
    intro i at_ hi h0 h1
    refine Ev.step (fun k => valiselaw9_means.l0.eq_2 ..) (pos (by omega) (pos (by omega) ?_))
    rw [drop_rdT ts i (by omega)]
    generalize ht : rd_T37 ts (i : Int) = t
    refine bnd (sound_l t) ?_
    rw [meansB]
    by_cases h2 : sndB t = true
    · refine pos h2 (bnd (a := say t) rfl ?_)
      have hs : 1 ≤ say t ∧ say t ≤ 258 ∧ 0 ≤ t.f1 ∧ 0 ≤ t.f0 := by
        rcases snd_cases h2 with ⟨e0, e1⟩ | ⟨e0, e1, e2, e3, e4⟩
        · rw [say_lit e0]; omega
        · rw [say_copy (by omega)]; omega
      rw [w64 (x := at_ + say t) (by omega) (by omega)]
      by_cases h3 : at_ + say t > data.length
      · refine pos h3 ?_
        refine Ev.step (fun k => valiselaw9_means.j1.eq_2 ..) (pos rfl (done ?_))
        have : decide (at_ + say t ≤ data.length) = false := by simp; omega
        simp [this]
      · refine neg h3 ?_
        have d3 : decide (at_ + say t ≤ data.length) = true := by simp; omega
        refine Ev.step (fun k => valiselaw9_means.j1.eq_2 ..) ?_
        by_cases h4 : t.f1 > at_
        · refine pos (by simpa using h4) (done ?_)
          have : decide (t.f1 ≤ at_) = false := by simp; omega
          simp [this]
        · refine neg (by simpa using h4) ?_
          have d4 : decide (t.f1 ≤ at_) = true := by simp; omega
          have hnext := ih (i + 1) (at_ + say t) (by omega) (by omega) (by omega)
          have hR : ∀ m, mx 1 m = say t → Ev (fun k => valiselaw9_means.l0 k ts data (wrap64 (at_ + mx 1 m)) (wrap64 ((i : Int) + 1))) (meansB data (ts.drop (i + 1)) (at_ + say t)) := by
            intro m hm
            rw [hm, w64 (x := at_ + say t) (by omega) (by omega), w64 (x := (i : Int) + 1) (by omega) (by omega)]
            exact hnext
          simp only [h2, d3, d4, Bool.true_and]
          rcases snd_cases h2 with ⟨e0, e1⟩ | ⟨e0, e1, e2, e3, e4⟩
          · rw [say_lit e0] at h3
            refine pos e0 (pos (by omega) (pos (by omega) ?_))
            rw [if_pos e0]
            refine Ev.step (fun k => valiselaw9_means.j2.eq_2 ..) ?_
            by_cases h5 : rd data at_ = t.f2
            · refine neg (by simp [h5]) ?_
              have := means_l1 ts data at_ i t.f1 t.f2 t.f0 _ hd h0 (by omega) (by omega) (by omega) (by omega) (hR _ rfl) 0 0 (by omega)
              simpa [eqs, h5] using this
            · refine pos (by simpa using h5) (done ?_)
              have : (rd data at_ == t.f2) = false := by simpa using h5
              simp [this]
          · rw [say_copy (by omega)] at h3
            refine neg (by omega) ?_
            rw [if_neg (by omega)]
            refine Ev.step (fun k => valiselaw9_means.j2.eq_2 ..) (neg (by simp) ?_)
            exact means_l1 ts data at_ i t.f1 t.f2 t.f0 _ hd h0 (by omega) (by omega) (by omega) (by omega) (hR _ rfl) t.f0.toNat 0 (by omega)
    · refine neg h2 ?_
      refine Ev.step (fun k => valiselaw9_means.j1.eq_2 ..) (pos rfl (done ?_))
      have : sndB t = false := by simpa using h2
      simp [this]
theorem means_ev (ts : List Tok) (data : List Int) (hd : data.length ≤ 140737488355328) (hn : ts.length * 24 ≤ 140737488355328) : Ev (fun k => valiselaw9_means.f k ts data) (meansB data ts 0) :=
  means_l0 ts data hd hn ts.length 0 0 (by omega) (by omega) (by omega)

/-! ### the text means itself -/
theorem copyN_rd (d : Int) (h0 : 0 < d) : ∀ (n : Nat) (out : List Int), d ≤ out.length → ∀ j : Nat, j < n →
    rd (copyN out d n) (out.length + j) = rd (copyN out d n) (out.length + j - d) := by
  intro n
  induction n with
  | zero => intro out _ j hj; omega
  | succ n ih =>
    intro out hd j hj
    simp only [copyN]
    cases j with
    | zero =>
      obtain ⟨s, hs⟩ := copyN_app d n (out ++ [rd out (out.length - d)])
      rw [hs]
      have e1 : ∀ x, rd (out ++ [x] ++ s) ((out.length : Int) + ((0 : Nat) : Int)) = x := by
        intro x
        rw [rd_app_left _ _ _ (by omega) (by simp; omega)]
        simpa using rd_snoc out x
      have e2 : ∀ x, rd (out ++ [x] ++ s) ((out.length : Int) + ((0 : Nat) : Int) - d) = rd out (out.length - d) := by
        intro x
        rw [rd_app_left _ _ _ (by omega) (by simp; omega), rd_app_left _ _ _ (by omega) (by omega)]
        rw [show ((out.length : Int) + ((0 : Nat) : Int) - d) = (out.length : Int) - d by omega]
      rw [e1, e2]
    | succ j =>
      have := ih (out ++ [rd out (out.length - d)]) (by simp; omega) j (by omega)
      rw [show ((out ++ [rd out (out.length - d)]).length : Int) + (j : Int) = (out.length : Int) + ((j + 1 : Nat) : Int) by simp; omega] at this
      exact this
theorem means_text {lim : Int} : ∀ (ts : List Tok) (out : List Int), goodB lim ts out.length = true → meansB (textOf out ts) ts out.length = true := by
  intro ts
  induction ts with
  | nil => intro out _; simp [meansB, textOf]
  | cons t ts ih =>
    intro out h
    have hall := good_sound _ _ h
    simp only [goodB, Bool.and_eq_true, decide_eq_true_eq] at h
    obtain ⟨h1, h2, h3, h4⟩ := h
    have hl := putT_length h1 out
    have hn := ih (putT out t) (by rw [hl]; exact h4)
    obtain ⟨s, hs⟩ := textOf_more ts (putT out t)
    rw [hl] at hn
    rw [meansB, textOf_cons]
    have hlen : (out.length : Int) + say t ≤ (textOf (putT out t) ts).length := by rw [hs, List.length_append]; omega
    simp only [Bool.and_eq_true, decide_eq_true_eq]
    refine ⟨h1, hlen, h2, ?_, hn⟩
    rcases snd_cases h1 with ⟨e0, e1⟩ | ⟨e0, e1, e2, e3, e4⟩
    · rw [if_pos e0, hs, putT, if_pos e0]
      rw [rd_app_left _ _ _ (by omega) (by simp; omega), rd_snoc]
      simp
    · rw [if_neg (by omega), eqs_iff]
      intro i _ hi
      rw [say_copy (by omega)] at hl
      rw [hs]
      rw [rd_app_left _ _ _ (by omega) (by omega), rd_app_left _ _ _ (by omega) (by omega)]
      rw [putT, if_neg (by omega)]
      exact copyN_rd t.f1 (by omega) t.f0.toNat out h2 i (by omega)
theorem copyN_take (data : List Int) (d : Int) (h0 : 0 < d) : ∀ (n at_ : Nat), at_ + n ≤ data.length → d ≤ at_ → (∀ j : Nat, j < n → rd data (at_ + j) = rd data (at_ + j - d)) →
    copyN (data.take at_) d n = data.take (at_ + n) := by
  intro n
  induction n with
  | zero => intro at_ _ _ _; rfl
  | succ n ih =>
    intro at_ hn hd h
    have e0 := h 0 (by omega)
    simp only [copyN]
    have hl : (data.take at_).length = at_ := by rw [List.length_take]; omega
    have : data.take at_ ++ [rd (data.take at_) ((data.take at_).length - d)] = data.take (at_ + 1) := by
      rw [hl, rd_take _ _ _ (by omega) (by omega), take_rd _ _ (by omega)]
      rw [show ((at_ : Int) + ((0 : Nat) : Int) - d) = (at_ : Int) - d by omega, show ((at_ : Int) + ((0 : Nat) : Int)) = (at_ : Int) by omega] at e0
      rw [e0]
    rw [this, ih (at_ + 1) (by omega) (by omega) (fun j hj => by
      have := h (j + 1) (by omega)
      rw [show ((at_ + 1 : Nat) : Int) + (j : Int) = (at_ : Int) + ((j + 1 : Nat) : Int) by omega]
      exact this)]
    rw [show at_ + 1 + n = at_ + (n + 1) by omega]
theorem text_means (data : List Int) : ∀ (ts : List Tok) (at_ : Nat), at_ ≤ data.length → meansB data ts at_ = true → textOf (data.take at_) ts = data ∧ goodB data.length ts at_ = true := by
  intro ts
  induction ts with
  | nil =>
    intro at_ hat h
    have : (at_ : Int) = data.length := by simpa [meansB] using h
    refine ⟨?_, rfl⟩
    show data.take at_ = data
    exact List.take_of_length_le (by omega)
  | cons t ts ih =>
    intro at_ hat h
    simp only [meansB, Bool.and_eq_true, decide_eq_true_eq] at h
    obtain ⟨h1, h2, h3, h4, h5⟩ := h
    have hs := say_pos t
    obtain ⟨n, hn⟩ : ∃ n : Nat, say t = n := ⟨(say t).toNat, by omega⟩
    rw [hn] at h2 h5
    have hp : putT (data.take at_) t = data.take (at_ + n) := by
      unfold putT
      rcases snd_cases h1 with ⟨e0, e1⟩ | ⟨e0, e1, e2, e3, e4⟩
      · rw [say_lit e0] at hn
        obtain rfl : n = 1 := by omega
        rw [if_pos e0] at h4 ⊢
        rw [take_rd _ _ (by omega)]
        rw [beq_iff_eq.1 h4]
      · rw [say_copy (by omega)] at hn
        rw [if_neg (by omega)] at h4 ⊢
        rw [eqs_iff] at h4
        rw [show t.f0.toNat = n by omega]
        exact copyN_take data t.f1 (by omega) n at_ (by omega) h3 (fun j hj => h4 j (by omega) (by omega))
    have := ih (at_ + n) (by omega) (by rw [show ((at_ + n : Nat) : Int) = (at_ : Int) + n by omega]; exact h5)
    rw [textOf_cons, hp]
    refine ⟨this.1, ?_⟩
    simp only [goodB, Bool.and_eq_true, decide_eq_true_eq]
    rw [hn]
    refine ⟨h1, h3, h2, ?_⟩
    have h6 := this.2
    rw [show ((at_ + n : Nat) : Int) = (at_ : Int) + n by omega] at h6
    exact h6
theorem good_app (lim : Int) : ∀ (a b : List Tok) (n : Int), goodB lim (a ++ b) n = (goodB lim a n && goodB lim b (sizeT a n)) := by
  intro a
  induction a with
  | nil => intro b n; simp [goodB, sizeT]
  | cons t a ih => intro b n; simp only [List.cons_append, goodB, ih, sizeT, Bool.and_assoc]
theorem sizeT_app : ∀ (a b : List Tok) (n : Int), sizeT (a ++ b) n = sizeT b (sizeT a n) := by
  intro a
  induction a with
  | nil => intro b n; rfl
  | cons t a ih => intro b n; simp only [List.cons_append, sizeT, ih]
theorem which_some (c n : Int) (hn : 0 < n) (h2 : n ≤ 140737488355328) : ∃ m, valiselaw9_which.f c n = some m ∧ 0 ≤ m ∧ m < n := by
  unfold valiselaw9_which.f
  rw [if_neg (by omega)]
  have h := Int.tmod_lt_of_pos c hn
  have h3 : -n < Int.tmod c n := by
    have := Int.tmod_lt_of_pos (-c) hn
    rw [Int.neg_tmod] at this
    omega
  by_cases h4 : Int.tmod c n < 0
  · rw [if_pos h4]
    refine ⟨_, rfl, ?_⟩
    rw [w64 (by omega) (by omega)]
    omega
  · rw [if_neg h4]
    exact ⟨_, rfl, by omega, h⟩
end Go.Proofs.Ytehpkbkffaolaaa.PM
