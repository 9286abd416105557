/- MatchExpands: the pure statement, proved: both Expands come to the same answer of whatever tokens, sound or not. -/
import Derived.Test.YtehpkbkffaolaaaPMQMatchExpands
import Derived.Test.YtehpkbkffaolaaaPMA
namespace Go.Proofs.Ytehpkbkffaolaaa.PM.Pure
open Go.RowKit Go.Proofs.Ytehpkbkffaolaaa Go.Proofs.YtehpkbkffaolaaaW.PrintWords Go.Proofs.YtehpkbkffaolaaaW.PrintLast Go.Proofs.YtehpkbkffaolaaaW.PrintMore Go.Proofs.Ytehpkbkffaolaaa.Pur Go.Proofs.Ytehpkbkffaolaaa.PM

theorem MatchExpands : valiselaw9_MatchExpands.Pure := by
  intro l a hl _
  have hn := hl.1
  refine Ev.rounds ?_
  unfold valiselaw9_MatchExpands.f
  refine Ev.bind (twin_ev l (by omega)) (bnd rfl (pos (by simp; omega) (bnd rfl (pos (by omega) (pos (by simp; omega) (bnd rfl ?_))))))
  have ht : (l ++ [(⟨7001, 0, 0⟩ : S37), (⟨7002, 0, 0⟩ : S37)]).take ((l.length : Int) : Int).toNat = l := by simp
  rw [ht]
  refine Ev.bind (expand_m l a (by omega)) (Ev.bind (expand_r l a (by omega)) ?_)
  have hx := expand_length l a
  refine Ev.bind (same_ev _ _ (by omega)) ?_
  refine pos (by simp) (bnd rfl (pos rfl ?_))
  refine Ev.bind (alike_ev l l (by omega)) (pos (by simp) (pos (by simp; omega) ?_))
  have h1 : rd_T37 (l ++ [(⟨7001, 0, 0⟩ : S37), (⟨7002, 0, 0⟩ : S37)]) (l.length : Int) = ⟨7001, 0, 0⟩ := by
    rw [rdT_nat _ _ (by simp)]; simp
  have h2 : rd_T37 (l ++ [(⟨7001, 0, 0⟩ : S37), (⟨7002, 0, 0⟩ : S37)]) ((l.length + 1 : Nat) : Int) = ⟨7002, 0, 0⟩ := by
    rw [rdT_nat _ _ (by simp)]; simp
  refine pos (by rw [h1]) ?_
  rw [w64 (x := (l.length : Int) + 1) (by omega) (by omega)]
  refine pos (by omega) (pos (by simp) (done ?_))
  rw [show (l.length : Int) + 1 = ((l.length + 1 : Nat) : Int) by omega, h2]
  rfl

end Go.Proofs.Ytehpkbkffaolaaa.PM.Pure
