/- The builtin copy onto a row of the call's own: elements of any number of cells; what is copied leads to no rows of its own. -/
import Derived.Test.YtekcpcipbccodaaWMore
import Derived.Laws.CopyRow
import Derived.Laws.IdiomCopy
namespace Go.Proofs.YtekcpcipbccodaaW.PrintMore
open Go.RowKit Go.Proofs.YtekcpcipbccodaaW.PrintWords
set_option linter.unusedVariables false

/-- What a row holds behind copy. -/
def cpy {α : Type} (xs ys : List α) : List α := ys.take xs.length ++ xs.drop ys.length
theorem cpy_length {α : Type} (xs ys : List α) : (cpy xs ys).length = xs.length := by simp [cpy]; omega
theorem cpy_same {α : Type} {xs ys : List α} (h : xs.length = ys.length) : cpy xs ys = ys := by
  unfold cpy
  rw [List.take_of_length_le (by omega), List.drop_eq_nil_of_le (by omega), List.append_nil]

section
variable {P : Program} {ops : Array Oper} {rest : List Oper} {o : Oper} {a : Act} {Q : Exit → Act → World → Prop}
theorem reps_part {α : Type} {R R' : α → List Value → Prop} {size : Nat} {xs ys : List α} {cs ds : List Value} (hx : Reps R size xs cs) (hy : Reps R' size ys ds)
    {S : α → List Value → Prop} (h1 : ∀ p c, R p c → S p c) (h2 : ∀ p c, R' p c → S p c) :
    Reps S size (cpy xs ys) (ds.take (xs.length * size) ++ cs.drop (ys.length * size)) := by
  have hlx := hx.1
  have hly := hy.1
  refine ⟨?_, fun j p hj => ?_⟩
  · rw [cpy_length]
    rw [List.length_append, List.length_take, List.length_drop, hlx, hly]
    rcases Nat.le_total xs.length ys.length with h | h
    · have := Nat.mul_le_mul_right size h
      omega
    · have := Nat.mul_le_mul_right size h
      omega
  · unfold cpy at hj
    rcases Nat.lt_or_ge j (min xs.length ys.length) with hlt | hge
    · rw [List.getElem?_append_left (by simp; omega), List.getElem?_take_of_lt (by omega)] at hj
      have hp := h2 _ _ (hy.2 j p hj)
      have hb1 : j * size + size ≤ xs.length * size := by rw [← Nat.succ_mul]; exact Nat.mul_le_mul_right _ (by omega)
      have hb2 : j * size + size ≤ ys.length * size := by rw [← Nat.succ_mul]; exact Nat.mul_le_mul_right _ (by omega)
      rw [List.drop_append_of_le_length (by rw [List.length_take]; omega), List.take_append_of_le_length (by rw [List.length_drop, List.length_take]; omega), List.drop_take, List.take_take, Nat.min_eq_left (by omega)]
      exact hp
    · have hjl := (List.getElem?_eq_some_iff.1 hj).1
      rw [List.length_append, List.length_take, List.length_drop] at hjl
      have hly' : ys.length ≤ xs.length := by omega
      have hmin : min xs.length ys.length = ys.length := by omega
      rw [List.getElem?_append_right (by rw [List.length_take]; omega), List.getElem?_drop, List.length_take, hmin, show ys.length + (j - ys.length) = j by omega] at hj
      have hp := h1 _ _ (hx.2 j p hj)
      have hb2 : ys.length * size ≤ j * size := Nat.mul_le_mul_right _ (by omega)
      have hb3 : ds.length ≤ xs.length * size := by rw [hly]; exact Nat.mul_le_mul_right _ (by omega)
      rw [List.take_of_length_le hb3, List.drop_append, List.drop_eq_nil_of_le (by omega), List.nil_append, List.drop_drop, hly, show ys.length * size + (j * size - ys.length * size) = j * size by omega]
      exact hp

theorem R_copy {α : Type} (d : Kd α) {w0 W : World} (base : Nat) (hgd : o.guard = none) (s x : Operand) (t sT e : TypeId)
    (ho : o.op = .call { callee := .builtin .copy, args := #[s, x], argTypes := #[t, sT] })
    (ht : P.underlying t = some (.slice e)) {z : Value} {bytes : Nat} (hinfo : (P.info? e).map (fun i => (i.zero, i.size, i.bytes)) = some (some z, d.sz, bytes)) (hs0 : 0 < d.sz)
    (v : Value) (xs ys : List α) (A : Option Addr) (m c : Nat) (ok okp : Nat → Prop) (hs : a.eval s = v) (hx : a.eval x = .slice A m c)
    (HO : d.R e W base ok v xs) (HR : d.C W A m ys) (hKM : ∀ x cs W', d.K W x cs → d.M W' base okp x cs) (hokp : ∀ k, okp k → ok k ∧ some k ≠ v.ownBlock)
    (HB : Below base w0 W)
    (h : ∀ w1, d.R e w1 base ok v (cpy xs ys) → Below base w0 w1 → W.grownBy w1 v.ownBlock → (v.ownBlock = v.ownBlock ∨ ∃ b, v.ownBlock = some b ∧ W.heap.size ≤ b) → wpList P ops Q rest (a.put o.dst (.int .i64 (mn (xs.length : Int) (ys.length : Int)))) w1) :
    wpList P ops Q (o :: rest) a W := by
  obtain ⟨i0, hi, hzz⟩ := Option.map_eq_some_iff.1 hinfo
  simp only [Prod.mk.injEq] at hzz
  obtain ⟨_, hz1, _⟩ := hzz
  have hm : ys.length = m := HR.1
  obtain ⟨hok, inner, hown, hr⟩ := HO
  have hmn : ((Nat.min m xs.length : Nat) : Int) = mn (xs.length : Int) (ys.length : Int) := by
    unfold mn
    rw [← hm]
    show ((min ys.length xs.length : Nat) : Int) = _
    split <;> omega
  have hrun : ∃ w1, (Builtin.copy_ #[t, sT] o.type #[v, .slice A m c]).run P W = .ok (.int .i64 (mn (xs.length : Int) (ys.length : Int))) w1 ∧ d.R e w1 base ok v (cpy xs ys) ∧ Below base w0 w1 ∧ W.grownBy w1 v.ownBlock := by
    rw [← hmn]
    have none_ : Nat.min m xs.length = 0 → (∀ (q : Option Addr) (l c' : Nat), v = .slice q l c' → l = xs.length → (Builtin.copy_ #[t, sT] o.type #[v, .slice A m c]).run P W = .ok (.int .i64 ((Nat.min m xs.length : Nat) : Int)) W) := by
      intro h0 q l c' hv hl
      subst hv
      subst hl
      have hld : ∀ (x : Addr), (loadCells x 0).run P W = .ok #[] W := fun x => by simpa using run_loadCells_list (P := P) W x [] (by simp)
      cases q <;> cases A <;> simp [Builtin.copy_, run_underlying ht, Builtin.lenOf, Builtin.firstCells, sizeOf, typeInfo, hi, h0, storeCells, hld, goInt]
    by_cases h0 : Nat.min m xs.length = 0
    · have hv : ∃ q c', v = .slice q xs.length c' := by
        rcases hown.2 with ⟨rfl, h1⟩ | ⟨g, cap, cur, rfl, _⟩
        · exact ⟨none, 0, by rw [h1]⟩
        · exact ⟨_, cap, rfl⟩
      obtain ⟨q, c', hv⟩ := hv
      refine ⟨W, none_ h0 q _ c' hv rfl, ?_, HB, World.grownBy.refl W _⟩
      have hc : cpy xs ys = xs := by
        have h0' : min m xs.length = 0 := h0
        unfold cpy
        rcases Nat.eq_zero_or_pos xs.length with hz | hz
        · obtain rfl := List.eq_nil_of_length_eq_zero hz
          simp
        · obtain rfl : ys = [] := List.eq_nil_of_length_eq_zero (by omega)
          simp
      rw [hc]
      exact ⟨hok, inner, hown, hr⟩
    · have h0' : min m xs.length ≠ 0 := h0
      rcases hown.2 with ⟨rfl, h1⟩ | ⟨g, cap, cur, rfl, hbg, hh, hnc, hcm, hcs, htk⟩
      · omega
      · rcases A with _ | ad
        · exfalso
          obtain ⟨ad, h, _⟩ := HR.2.2 (by omega)
          cases h
        · obtain ⟨news, hnr, hnc2⟩ := ReadsRow.inner_ HR
          have hnl : news.length = m * d.sz := by rw [hnr.1, hm]
          have hone : ∀ u ∈ news, u.oneCell' = true := by
            intro u hu
            obtain ⟨q, hq, rfl⟩ := List.mem_iff_getElem.1 hu
            have hql : q / d.sz < ys.length := by
              rw [Nat.div_lt_iff_lt_mul hs0, ← hnr.1]
              exact hq
            have hc := hnr.2 (q / d.sz) _ (List.getElem?_eq_getElem hql)
            refine d.K_one hc _ ?_
            rw [List.mem_iff_getElem?]
            refine ⟨q % d.sz, ?_⟩
            rw [List.getElem?_take, if_pos (Nat.mod_lt _ hs0), List.getElem?_drop, Nat.mul_comm, Nat.div_add_mod, List.getElem?_eq_getElem hq]
          have hcsl : (news.take (xs.length * d.sz)).length = Nat.min m xs.length * d.sz := by
            rw [List.length_take, hnl]
            show min (xs.length * d.sz) (m * d.sz) = min m xs.length * d.sz
            rcases Nat.le_total m xs.length with hq | hq
            · have := Nat.mul_le_mul_right d.sz hq
              rw [Nat.min_eq_right this, Nat.min_eq_left hq]
            · have := Nat.mul_le_mul_right d.sz hq
              rw [Nat.min_eq_left this, Nat.min_eq_right hq]
          have hb1 : Nat.min m xs.length * d.sz ≤ cap * d.sz := Nat.mul_le_mul_right _ (show min m xs.length ≤ cap by omega)
          have hl := run_loadCells_list (P := P) W ad (news.take (xs.length * d.sz)) (fun j u hu => hnc2 j u (by
            have hj := (List.getElem?_eq_some_iff.1 hu).1
            rw [List.length_take] at hj
            rwa [List.getElem?_take_of_lt (by omega)] at hu))
          have hst := run_storeCells_at P g 0 e (news.take (xs.length * d.sz)) 0 cur W hh (by rw [hcsl, hcs]; omega) (fun u hu => hone u (List.mem_of_mem_take hu))
          rw [hcsl] at hl
          have hgl : g < W.heap.size := (Array.getElem?_eq_some_iff.1 hh).1
          refine ⟨W.setRow g (cur.toList.take (0 + 0) ++ news.take (xs.length * d.sz) ++ cur.toList.drop (0 + 0 + (news.take (xs.length * d.sz)).length)).toArray, ?_, ?_, ?_, ?_⟩
          · have hsz : d.sz = i0.size := hz1.symm
            rw [hsz] at hl hst ⊢
            simp [Builtin.copy_, run_underlying ht, Builtin.lenOf, Builtin.firstCells, sizeOf, typeInfo, hi, hl, hst, goInt]
          · have hkeep : ∀ k, k ≠ g → (W.setRow g (cur.toList.take (0 + 0) ++ news.take (xs.length * d.sz) ++ cur.toList.drop (0 + 0 + (news.take (xs.length * d.sz)).length)).toArray).heap[k]? = W.heap[k]? := fun k hk => setRow_other W g k _ (by omega)
            have hnew := setRow_heap W g cur (cur.toList.take (0 + 0) ++ news.take (xs.length * d.sz) ++ cur.toList.drop (0 + 0 + (news.take (xs.length * d.sz)).length)).toArray e (0, 0) hh
            refine ⟨hok, news.take (xs.length * d.sz) ++ inner.drop (ys.length * d.sz), ⟨?_, .inr ⟨g, cap, _, by rw [cpy_length], hbg, hnew, by rw [cpy_length]; exact hnc, hcm, ?_, ?_⟩⟩, ?_⟩
            · rw [cpy_length, List.length_append, hcsl, List.length_drop, hown.1, hm]
              show min m xs.length * d.sz + (xs.length * d.sz - m * d.sz) = _
              rcases Nat.le_total m xs.length with hq | hq
              · have := Nat.mul_le_mul_right d.sz hq
                rw [Nat.min_eq_left hq]; omega
              · have := Nat.mul_le_mul_right d.sz hq
                rw [Nat.min_eq_right hq]; omega
            · simp only [Nat.add_zero, List.take_zero, List.nil_append, Nat.zero_add, List.size_toArray, List.length_append, List.length_drop, Array.length_toList]
              rw [hcsl, hcs]
              omega
            · rw [cpy_length]
              simp only [Nat.add_zero, List.take_zero, List.nil_append, Nat.zero_add]
              rw [← htk]
              have hb2 : (news.take (xs.length * d.sz)).length ≤ xs.length * d.sz := by rw [List.length_take]; omega
              rw [List.take_append, List.take_of_length_le hb2]
              congr 1
              rw [hcsl, hm, List.drop_take]
              show List.take (xs.length * d.sz - min m xs.length * d.sz) (List.drop (min m xs.length * d.sz) cur.toList) = _
              rcases Nat.le_total m xs.length with hq | hq
              · rw [Nat.min_eq_left hq]
              · have := Nat.mul_le_mul_right d.sz hq
                rw [Nat.min_eq_right hq, Nat.sub_self, List.take_zero, Nat.sub_eq_zero_of_le this, List.take_zero]
            · refine reps_part hr hnr (fun p cs hp => ?_) (fun p cs hp => ?_)
              · refine d.M_move (fun k hk => hkeep k ?_) hp
                rintro rfl
                exact hk.2 rfl
              · exact d.M_mono (fun k hk => hokp k hk) (hKM p cs _ hp)
          · refine HB.trans ⟨rfl, rfl, rfl, by simp [World.setRow], fun k hk => setRow_other W g k _ (by omega)⟩
          · refine ⟨rfl, rfl, rfl, by simp [World.setRow], fun k hk hne => setRow_other W g k _ (fun he => hne (by subst he; rfl))⟩
  obtain ⟨w1, hr1, hR, hB, hG⟩ := hrun
  refine wpList_plain hgd fun K hK => ?_
  unfold Oper.wp
  simp [execOp, ho, resolve, invoke, builtin, hs, hx, hr1, Result.andThen]
  exact hK _ _ (h w1 hR hB hG (.inl rfl))
end
end Go.Proofs.YtekcpcipbccodaaW.PrintMore
