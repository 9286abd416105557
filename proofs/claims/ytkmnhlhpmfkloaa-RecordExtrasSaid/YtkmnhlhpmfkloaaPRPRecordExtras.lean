/- RecordExtras: the pure statement, proved: of every text and every list of fields both answer the same, and what was handed in stays. -/
import Derived.Test.YtkmnhlhpmfkloaaPRA
namespace Go.Proofs.Ytkmnhlhpmfkloaa.PR.Pure
open Go.RowKit Go.Proofs.Ytkmnhlhpmfkloaa Go.Proofs.YtkmnhlhpmfkloaaW.PrintWords Go.Proofs.YtkmnhlhpmfkloaaW.PrintLast Go.Proofs.YtkmnhlhpmfkloaaW.PrintMore Go.Proofs.Ytkmnhlhpmfkloaa.Pur Go.Proofs.Ytkmnhlhpmfkloaa.PR

theorem RecordExtras : valiselaw12_RecordExtras.Pure := by
  intro s l hs hl
  have hn := hl.1
  refine Ev.rounds ?_
  unfold valiselaw12_RecordExtras.f
  refine bnd (split_f s) (bnd (rsplit_f s) ?_)
  refine Ev.bind (alike_ev _ _ (by rw [List.length_map]; have := rsplitF_len s; omega)) (pos (by simp) (bnd rfl ?_))
  refine Ev.step (fun k => valiselaw12_RecordExtras.j0.eq_2 ..) (neg (by simp) ?_)
  have key : ∀ (d i : Nat) (acc : List Ext), i + d = l.length → acc = l.take i → Ev (fun k => valiselaw12_RecordExtras.l0 k l acc (i : Int)) true := by
    intro d
    induction d with
    | zero =>
      intro i acc hd ha
      have ha' : acc = l := by rw [ha, List.take_of_length_le (by omega)]
      subst ha'
      refine Ev.step (fun k => valiselaw12_RecordExtras.l0.eq_2 ..) (neg (by omega) (bnd rfl (pos (by simp; omega) (bnd rfl (pos (by omega) (pos (by simp; omega) (bnd rfl ?_)))))))
      have ht : (acc ++ [(⟨7001, ⟨#[]⟩⟩ : Ext), (⟨7002, ⟨#[]⟩⟩ : Ext)]).take ((acc.length : Int) : Int).toNat = acc := by simp
      rw [ht]
      refine bnd (join_f acc) (Ev.bind (rjoin_ev acc (by omega)) (pos rfl (bnd rfl (pos rfl ?_))))
      refine Ev.bind (alike_ev acc acc (by omega)) (pos (by simp) (pos (by simp; omega) ?_))
      have h1 : rd_T49 (acc ++ [(⟨7001, ⟨#[]⟩⟩ : Ext), (⟨7002, ⟨#[]⟩⟩ : Ext)]) (acc.length : Int) = ⟨7001, ⟨#[]⟩⟩ := by
        rw [rdX_nat _ _ (by simp)]; simp
      have h2 : rd_T49 (acc ++ [(⟨7001, ⟨#[]⟩⟩ : Ext), (⟨7002, ⟨#[]⟩⟩ : Ext)]) ((acc.length + 1 : Nat) : Int) = ⟨7002, ⟨#[]⟩⟩ := by
        rw [rdX_nat _ _ (by simp)]; simp
      refine pos (by rw [h1]) ?_
      rw [w64 (x := (acc.length : Int) + 1) (by omega) (by omega)]
      refine pos (by omega) (pos (by simp) (done ?_))
      rw [show (acc.length : Int) + 1 = ((acc.length + 1 : Nat) : Int) by omega, h2]
      rfl
    | succ d ih =>
      intro i acc hd ha
      refine Ev.step (fun k => valiselaw12_RecordExtras.l0.eq_2 ..) (pos (by omega) (pos (by omega) (pos (by rw [ha, List.length_take]; omega) ?_)))
      rw [w64 (x := (i : Int) + 1) (by omega) (by omega)]
      refine ih (i + 1) _ (by omega) ?_
      rw [take_rdX l i (by omega), ha]
  exact key l.length 0 [] (by omega) (by simp)
end Go.Proofs.Ytkmnhlhpmfkloaa.PR.Pure
