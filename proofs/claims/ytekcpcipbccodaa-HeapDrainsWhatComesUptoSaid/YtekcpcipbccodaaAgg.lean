/- A whole struct loaded from a row's place, and stored into the variable that was just made: one step each. -/
import Derived.Test.YtekcpcipbccodaaWMore
import Derived.Laws.Rows
import Derived.BigQuiet
namespace Go.Proofs.YtekcpcipbccodaaW.PrintMore
open Go.RowKit Go.Proofs.YtekcpcipbccodaaW.PrintWords
set_option linter.unusedVariables false
variable {P : Program} {ops : Array Oper} {rest : List Oper} {o : Oper} {a : Act} {Q : Exit → Act → World → Prop} {W : World}
theorem agg_load (ty : TypeId) (x : Operand) (hgd : o.guard = none) (ho : o.op = .load ty x) (ad : Addr) (hx : a.eval x = .pointer (some ad)) (cs : List Value) {d : TypeDesc}
    (hu : P.underlying ty = some d) (hd : (match d with | .struct _ | .array _ _ => true | _ => false) = true) {z : Option Value} {bytes : Nat} (hinfo : (P.info? ty).map (fun i => (i.zero, i.size, i.bytes)) = some (z, cs.length, bytes))
    (hc : ∀ j v, cs[j]? = some v → W.cell? (ad.add j) = some v)
    (h : wpList P ops Q rest (a.put o.dst (.agg cs.toArray)) W) : wpList P ops Q (o :: rest) a W := by
  refine wpList_plain hgd fun K hK => ?_
  have hl := run_loadCells_list (P := P) W ad cs hc
  have hagg : (isAgg ty).run P W = .ok true W := by
    unfold isAgg
    rw [Sem.run_bind, run_underlying hu W]
    cases d <;> simp_all
  have hr : (loadVar ty ad).run P W = .ok (.agg cs.toArray) W := by
    cases hq : P.info? ty with
    | none => simp [hq] at hinfo
    | some i =>
      have hs : i.size = cs.length := by
        simp only [hq, Option.map_some, Option.some.injEq, Prod.mk.injEq] at hinfo
        exact hinfo.2.1
      simp [loadVar, Sem.run_bind, hagg, sizeOf, typeInfo, hq, hs, hl]
  unfold Oper.wp execOp
  simp only [ho, hx, Instr.loadAt, Instr.sureAddr, Sem.run_bind, Sem.run_pure, Result.andThen_ok, hr]
  exact hK _ _ h
theorem setRow_alloc_new (W : World) (old cs : Array Value) (t : TypeId) : (W.alloc (.cells old t)).setRow W.heap.size cs = W.alloc (.cells cs t) := by
  unfold World.setRow World.alloc
  congr 1
  apply Array.ext
  · simp
  · intro k h1 h2
    simp only [Array.getElem_modify, Array.getElem_push]
    by_cases hk : k < W.heap.size
    · simp [hk, Nat.ne_of_gt hk]
    · have : k = W.heap.size := by simp at h1; omega
      subst this
      simp
theorem agg_store_new (ty : TypeId) (x y : Operand) (hgd : o.guard = none) (ho : o.op = .store ty x y) (old cells : Array Value) (t : TypeId)
    (hx : a.eval x = .pointer (some ⟨W.heap.size, 0, none⟩)) (hy : a.eval y = .agg cells) (hi : (P.info? ty).map (·.size) = some cells.size)
    (hold : old.size = cells.size) (h1 : cells.all (·.oneCell') = true)
    (h : wpList P ops Q rest (a.put o.dst undef) (W.alloc (.cells cells t))) : wpList P ops Q (o :: rest) a (W.alloc (.cells old t)) := by
  refine wpList_plain hgd fun K hK => ?_
  refine wp_store_row ty x y ho W.heap.size cells hx hy t old (heap_alloc_new W _) hi hold h1 ?_
  rw [setRow_alloc_new]
  exact hK _ _ h
theorem gate_load {ty : TypeId} {x : Operand} (_ho : o.op = .load ty x) (h : wpList P ops Q (o :: rest) a W) : wpList P ops Q (o :: rest) a W := h
theorem agg_at {cs : List Value} {ad : Addr} {m : Nat} (h : ∀ j u, cs[j]? = some u → W.cell? (ad.add (m + j)) = some u) : ∀ j u, cs[j]? = some u → W.cell? ((ad.add m).add j) = some u := by
  intro j u hj
  have e : (ad.add m).add j = ad.add (m + j) := by
    unfold Addr.add
    by_cases hm : m = 0
    · subst hm
      simp
    · by_cases hjz : j = 0
      · subst hjz
        simp [hm]
      · simp [hm, hjz, Nat.add_assoc]
  rw [e]
  exact h j u hj
/-- A variable made and at once written whole: one event. -/
theorem box2_event {o2 : Oper} (hgd : o.guard = none) {N : Tmp} (_hd : o.dst = some N) (hgd2 : o2.guard = none) {zs : Array Value} {cs : List Value} {t ty : TypeId} (y : Operand) (ho2 : o2.op = .store ty (.tmp N) y)
    (hrun : (execOp a.eval o).run P W = .ok (.value (.pointer (some ⟨W.heap.size, 0, none⟩))) (W.alloc (.cells zs t (0, 0))))
    (hx : (a.put o.dst (.pointer (some ⟨W.heap.size, 0, none⟩))).eval (.tmp N) = .pointer (some ⟨W.heap.size, 0, none⟩))
    (hy : (a.put o.dst (.pointer (some ⟨W.heap.size, 0, none⟩))).eval y = .agg cs.toArray) {z : Option Value} {bytes n : Nat} (hinfo : (P.info? ty).map (fun i => (i.zero, i.size, i.bytes)) = some (z, n, bytes)) (hn : n = cs.length)
    (hold : zs.size = cs.length) (h1 : cs.all (·.oneCell') = true)
    (h : ∀ g, g = W.heap.size → ∀ w1, w1.heap[g]? = some (.cells cs.toArray t (0, 0)) → Below W.heap.size W w1 → wpList P ops Q rest ((a.put o.dst (.pointer (some ⟨g, 0, none⟩))).put o2.dst undef) w1) :
    wpList P ops Q (o :: o2 :: rest) a W := by
  have h1' : cs.toArray.all (·.oneCell') = true := by simpa using h1
  have hi : (P.info? ty).map (·.size) = some cs.toArray.size := by
    cases hq : P.info? ty with
    | none => simp [hq] at hinfo
    | some i =>
      simp only [hq, Option.map_some, Option.some.injEq, Prod.mk.injEq] at hinfo
      simp [hinfo.2.1, hn]
  refine wpList_plain hgd fun K hK => ?_
  unfold Oper.wp
  rw [hrun]
  refine hK _ _ ?_
  refine wpList_plain hgd2 fun K2 hK2 => ?_
  refine wp_store_row ty (.tmp N) y ho2 W.heap.size cs.toArray hx hy t zs (heap_alloc_new W _) hi (by simpa using hold) h1' ?_
  rw [setRow_alloc_new]
  exact hK2 _ _ (h _ rfl _ (blk_new W _) (below_alloc (Below.refl _ _) _))

/-- The same in a region that draws its order and only reads. -/
theorem agg_quiet {C : World → Prop} {Qa : Act → Prop} (ty : TypeId) (x : Operand) (hgd : o.guard = none) {D : Tmp} (hd' : o.dst = some D) (ho : o.op = .load ty x) (ad : Addr) (hx : a.eval x = .pointer (some ad)) (cs : List Value) {d : TypeDesc}
    (hu : P.underlying ty = some d) (hd : (match d with | .struct _ | .array _ _ => true | _ => false) = true) {z : Option Value} {bytes : Nat} (hinfo : (P.info? ty).map (fun i => (i.zero, i.size, i.bytes)) = some (z, cs.length, bytes))
    (hC : ∀ W', C W' → ∃ n, W' = W.drewN n) (hc : ∀ j v, cs[j]? = some v → W.cell? (ad.add j) = some v)
    (h : wpQuiet P ops C Qa rest { tmps := a.tmps.setIfInBounds D (.agg cs.toArray), defers := a.defers }) : wpQuiet P ops C Qa (o :: rest) a := by
  have hw : Region.wanted o (yielded ops a.tmps) = true := by simp [Region.wanted, hgd]
  unfold wpQuiet
  rw [if_pos hw]
  refine ⟨.agg cs.toArray, fun W' hW' => ?_, ?_⟩
  · obtain ⟨n, rfl⟩ := hC W' hW'
    have hc' : ∀ j v, cs[j]? = some v → (W.drewN n).cell? (ad.add j) = some v := hc
    have hl := run_loadCells_list (P := P) (W.drewN n) ad cs hc'
    have hagg : (isAgg ty).run P (W.drewN n) = .ok true (W.drewN n) := by
      unfold isAgg
      rw [Sem.run_bind, run_underlying hu (W.drewN n)]
      cases d <;> simp_all
    have hr : (loadVar ty ad).run P (W.drewN n) = .ok (.agg cs.toArray) (W.drewN n) := by
      cases hq : P.info? ty with
      | none => simp [hq] at hinfo
      | some i =>
        have hs : i.size = cs.length := by
          simp only [hq, Option.map_some, Option.some.injEq, Prod.mk.injEq] at hinfo
          exact hinfo.2.1
        simp [loadVar, Sem.run_bind, hagg, sizeOf, typeInfo, hq, hs, hl]
    have he : (execOp a.eval o).run P (W.drewN n) = .ok (.value (.agg cs.toArray)) (W.drewN n) := by
      unfold execOp
      simp only [ho, hx, Instr.loadAt, Instr.sureAddr, Sem.run_bind, Sem.run_pure, Result.andThen_ok, hr]
    unfold Oper.quietAt
    rw [he]
    exact ⟨rfl, rfl⟩
  · rw [hd']
    exact h
theorem agg_quiet_g {C : World → Prop} {Qa : Act → Prop} (ty : TypeId) (x : Operand) (hw : Region.wanted o (yielded ops a.tmps) = true) {D : Tmp} (hd' : o.dst = some D) (ho : o.op = .load ty x) (ad : Addr) (hx : a.eval x = .pointer (some ad)) (cs : List Value) {d : TypeDesc}
    (hu : P.underlying ty = some d) (hd : (match d with | .struct _ | .array _ _ => true | _ => false) = true) {z : Option Value} {bytes : Nat} (hinfo : (P.info? ty).map (fun i => (i.zero, i.size, i.bytes)) = some (z, cs.length, bytes))
    (hC : ∀ W', C W' → ∃ n, W' = W.drewN n) (hc : ∀ j v, cs[j]? = some v → W.cell? (ad.add j) = some v)
    (h : wpQuiet P ops C Qa rest { tmps := a.tmps.setIfInBounds D (.agg cs.toArray), defers := a.defers }) : wpQuiet P ops C Qa (o :: rest) a := by
  unfold wpQuiet
  rw [if_pos hw]
  refine ⟨.agg cs.toArray, fun W' hW' => ?_, ?_⟩
  · obtain ⟨n, rfl⟩ := hC W' hW'
    have hc' : ∀ j v, cs[j]? = some v → (W.drewN n).cell? (ad.add j) = some v := hc
    have hl := run_loadCells_list (P := P) (W.drewN n) ad cs hc'
    have hagg : (isAgg ty).run P (W.drewN n) = .ok true (W.drewN n) := by
      unfold isAgg
      rw [Sem.run_bind, run_underlying hu (W.drewN n)]
      cases d <;> simp_all
    have hr : (loadVar ty ad).run P (W.drewN n) = .ok (.agg cs.toArray) (W.drewN n) := by
      cases hq : P.info? ty with
      | none => simp [hq] at hinfo
      | some i =>
        have hs : i.size = cs.length := by
          simp only [hq, Option.map_some, Option.some.injEq, Prod.mk.injEq] at hinfo
          exact hinfo.2.1
        simp [loadVar, Sem.run_bind, hagg, sizeOf, typeInfo, hq, hs, hl]
    have he : (execOp a.eval o).run P (W.drewN n) = .ok (.value (.agg cs.toArray)) (W.drewN n) := by
      unfold execOp
      simp only [ho, hx, Instr.loadAt, Instr.sureAddr, Sem.run_bind, Sem.run_pure, Result.andThen_ok, hr]
    unfold Oper.quietAt
    rw [he]
    exact ⟨rfl, rfl⟩
  · rw [hd']
    exact h
theorem isEmpty_beq (l : List UInt8) : l.isEmpty = (l == []) := by cases l <;> rfl
theorem drawn_one {w : World} : ∀ W', (∃ n, W' = w.drewN n) → ∃ n, W' = w.drewN n := fun _ h => h
theorem drawn_two {w : World} {m : Nat} : ∀ W', (∃ n, W' = (w.drewN m).drewN n) → ∃ n, W' = w.drewN n := by
  rintro W' ⟨n, rfl⟩
  exact ⟨m + n, World.drewN_drewN ..⟩
end Go.Proofs.YtekcpcipbccodaaW.PrintMore
