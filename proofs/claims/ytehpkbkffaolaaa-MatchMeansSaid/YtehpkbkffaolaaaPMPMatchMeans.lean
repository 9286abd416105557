/- MatchMeans: the pure statement, proved: what Expand answers is just what the tokens say; a first part says a first part; nothing sound is refused. -/
import Derived.Test.YtehpkbkffaolaaaPMQMatchMeans
import Derived.Test.YtehpkbkffaolaaaPMB
namespace Go.Proofs.Ytehpkbkffaolaaa.PM.Pure
open Go.RowKit Go.Proofs.Ytehpkbkffaolaaa Go.Proofs.YtehpkbkffaolaaaW.PrintWords Go.Proofs.YtehpkbkffaolaaaW.PrintLast Go.Proofs.YtehpkbkffaolaaaW.PrintMore Go.Proofs.Ytehpkbkffaolaaa.Pur Go.Proofs.Ytehpkbkffaolaaa.PM
set_option linter.unusedVariables false

theorem expand_good {ts : List Tok} {lim : Int} (h0 : 0 ≤ lim) (h1 : lim ≤ 16777216) (hg : goodB lim ts 0 = true) : expand ts lim = (textOf [] ts, 0) := by
  rw [expand, if_neg (by omega)]
  exact exp_good ts [] hg
theorem expand_bad {ts : List Tok} {lim : Int} (h0 : 0 ≤ lim) (h1 : lim ≤ 16777216) (hg : goodB lim ts 0 = false) : ∃ e, expand ts lim = ([], e) ∧ e ≠ 0 := by
  rw [expand, if_neg (by omega)]
  obtain ⟨e, he, h⟩ := exp_bad (lim := lim) ts [] hg
  exact ⟨e, he, by omega⟩

/-- Behind the loop, all tokens being fine: the two Expands. -/
theorem mm_fine (l : List Tok) (c : Int) (hn : l.length * 24 ≤ 140737488351232) (hg : goodB 16777216 l 0 = true) :
    Ev (fun k => valiselaw9_MatchMeans.j2 k l c (sizeT l 0) (textOf [] l) false) true := by
  have hs1 := sizeT_ge l 0
  have hs2 := good_size l 0 hg (by omega)
  have hlen := text_length l [] (good_sound _ _ hg)
  simp only [List.length_nil, Int.natCast_zero] at hlen
  refine Ev.step (fun k => valiselaw9_MatchMeans.j2.eq_2 ..) (neg (by simp) ?_)
  rw [w64 (x := (l.length : Int) + 1) (by omega) (by omega)]
  obtain ⟨m, hm, h0, h1⟩ := which_some c ((l.length : Int) + 1) (by omega) (by omega)
  obtain ⟨m, rfl⟩ := Int.eq_ofNat_of_zero_le h0
  refine bnd hm (pos (by omega) (pos (by omega) (bnd rfl ?_)))
  have hgt := good_take (lim := 16777216) l 0 m hg
  rw [show ((m : Int) : Int).toNat = m from Int.toNat_natCast m]
  have hlt : (l.take m).length ≤ l.length := by rw [List.length_take]; omega
  have hsz : sizeT l 0 = sizeT (l.drop m) (sizeT (l.take m) 0) := by rw [← sizeT_app, List.take_append_drop]
  have hs3 := sizeT_ge (l.drop m) (sizeT (l.take m) 0)
  have hgl := good_lim (lim' := sizeT l 0) (l.take m) 0 hgt (by omega)
  have htl := text_length (l.take m) [] (good_sound _ _ hgt)
  simp only [List.length_nil, Int.natCast_zero] at htl
  refine Ev.bind (twin_ev _ (by omega)) (Ev.bind (expand_m _ _ (by omega)) ?_)
  rw [expand_good (by omega) (by omega) hgl]
  have hpre : ∃ s, textOf [] l = textOf [] (l.take m) ++ s := by
    obtain ⟨s, hs⟩ := textOf_more (l.drop m) (textOf [] (l.take m))
    exact ⟨s, by rw [← hs, ← textOf_app, List.take_append_drop]⟩
  obtain ⟨s, hs⟩ := hpre
  have hle : (textOf [] (l.take m)).length ≤ (textOf [] l).length := by rw [hs, List.length_append]; omega
  refine pos rfl (neg (by simp only; omega) (pos (by omega) (pos (by simp only; omega) ?_)))
  have htake : (textOf [] l).take (((textOf [] (l.take m), (0 : Int)).1.length : Int) : Int).toNat = textOf [] (l.take m) := by
    rw [Int.toNat_natCast, hs]
    simp
  rw [htake]
  refine Ev.bind (same_ev _ _ (by simp only; omega)) (pos (by simp) ?_)
  refine Ev.bind (means_ev _ _ (by simp only; omega) (by omega)) (done ?_)
  exact means_text (lim := 16777216) (l.take m) [] hgt

theorem MatchMeans : valiselaw9_MatchMeans.Pure := by
  intro l c hl _
  have hn := hl.1
  refine Ev.rounds ?_
  unfold valiselaw9_MatchMeans.f
  have key : ∀ (d i : Nat) (n : Int) (fine : Bool), i + d = l.length → 0 ≤ n → n ≤ 16777216 → (fine = true → goodB 16777216 (l.take i) 0 = true ∧ n = sizeT (l.take i) 0) → (fine = false → goodB 16777216 l 0 = false) →
      Ev (fun k => valiselaw9_MatchMeans.l0 k l c n fine (i : Int)) true := by
    intro d
    have after : ∀ (i : Int) (n : Int) (fine : Bool), (fine = true → goodB 16777216 l 0 = true ∧ n = sizeT l 0) → (fine = false → goodB 16777216 l 0 = false) → Ev (fun k => valiselaw9_MatchMeans.j1 k l c n fine i false) true := by
      intro i n fine hf hnf
      refine Ev.step (fun k => valiselaw9_MatchMeans.j1.eq_2 ..) (neg (by simp) ?_)
      refine Ev.bind (twin_ev _ (by omega)) (Ev.bind (expand_m _ _ (by omega)) ?_)
      cases fine with
      | true =>
        obtain ⟨hg, rfl⟩ := hf rfl
        have hs1 := sizeT_ge l 0
        have hs2 := good_size l 0 hg (by omega)
        have hlen := text_length l [] (good_sound _ _ hg)
        simp only [List.length_nil, Int.natCast_zero] at hlen
        rw [expand_good (by omega) (by omega) hg]
        refine pos rfl (pos rfl (pos (by simp only; omega) ?_))
        refine Ev.bind (means_ev _ _ (by simp only; omega) (by omega)) ?_
        have hm := means_text (lim := 16777216) l [] hg
        simp only [List.length_nil, Int.natCast_zero] at hm
        simp only [hm, Bool.not_true]
        exact mm_fine l c hn hg
      | false =>
        obtain ⟨e, he, hne⟩ := expand_bad (lim := 16777216) (by omega) (by omega) (hnf rfl)
        rw [he]
        exact neg (by simp) (neg hne (done rfl))
    induction d with
    | zero =>
      intro i n fine hi h0 h1 hf hnf
      refine Ev.step (fun k => valiselaw9_MatchMeans.l0.eq_2 ..) (neg (by omega) ?_)
      rw [List.take_of_length_le (by omega)] at hf
      exact after _ _ _ hf hnf
    | succ d ih =>
      intro i n fine hi h0 h1 hf hnf
      refine Ev.step (fun k => valiselaw9_MatchMeans.l0.eq_2 ..) (pos (by omega) ?_)
      cases fine with
      | false =>
        have := after i n false (by simp) hnf
        exact this
      | true =>
        obtain ⟨hg, hsz⟩ := hf rfl
        have hw : wrap64 ((i : Int) + 1) = ((i + 1 : Nat) : Int) := by rw [w64 (by omega) (by omega)]; omega
        have hsplit : goodB 16777216 l 0 = (goodB 16777216 (l.take i) 0 && goodB 16777216 (l.drop i) (sizeT (l.take i) 0)) := by rw [← good_app, List.take_append_drop]
        rw [drop_rdT l i (by omega), hg, ← hsz] at hsplit
        have htk := take_rdT l i (by omega)
        refine Ev.step (fun k => valiselaw9_MatchMeans.j1.eq_2 ..) (pos rfl (pos (by omega) (pos (by omega) ?_)))
        generalize ht : rd_T37 l (i : Int) = t at hsplit htk ⊢
        refine bnd (sound_l t) ?_
        simp only [goodB, Bool.true_and] at hsplit
        by_cases h2 : sndB t = true
        · have hs : 1 ≤ say t ∧ say t ≤ 258 := by
            rcases snd_cases h2 with ⟨e0, e1⟩ | ⟨e0, e1, e2, e3, e4⟩
            · rw [say_lit e0]; omega
            · rw [say_copy (by omega)]; omega
          refine pos h2 ?_
          by_cases h3 : t.f1 ≤ n
          · refine pos h3 (bnd (a := say t) rfl ?_)
            rw [w64 (x := n + say t) (by omega) (by omega)]
            by_cases h4 : n + say t ≤ 16777216
            · refine pos h4 (bnd (a := say t) rfl ?_)
              rw [w64 (x := n + say t) (by omega) (by omega), hw, decide_eq_true h4]
              refine ih (i + 1) _ _ (by omega) (by omega) h4 (fun _ => ?_) (by simp)
              rw [htk, good_app, hg, sizeT_app, ← hsz]
              exact ⟨by simp [goodB, h2, h3, h4], rfl⟩
            · refine neg h4 ?_
              rw [hw, decide_eq_false h4]
              exact ih (i + 1) _ _ (by omega) h0 h1 (by simp) (fun _ => by rw [hsplit]; simp [h4])
          · refine neg h3 ?_
            rw [hw]
            exact ih (i + 1) _ _ (by omega) h0 h1 (by simp) (fun _ => by rw [hsplit]; simp [h3])
        · refine neg h2 ?_
          rw [hw]
          exact ih (i + 1) _ _ (by omega) h0 h1 (by simp) (fun _ => by rw [hsplit]; simp [h2])
  exact key l.length 0 0 true (by omega) (by omega) (by omega) (fun _ => ⟨by simp [goodB], by simp [sizeT]⟩) (by simp)

end Go.Proofs.Ytehpkbkffaolaaa.PM.Pure
